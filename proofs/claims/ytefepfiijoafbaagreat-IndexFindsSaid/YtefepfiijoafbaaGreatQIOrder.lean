/- IOrder -/
import Derived.Test.YtefepfiijoafbaaGreatQOrdP
import Derived.Test.YtefepfiijoafbaaGreatQRkH2
import Derived.Test.YtefepfiijoafbaaGreatQWhere
import Derived.Test.YtefepfiijoafbaaGreatQValO
import Derived.Test.YtefepfiijoafbaaGreatQEq4
set_option linter.unusedVariables false
set_option linter.unusedSimpArgs false
set_option maxRecDepth 100000
set_option maxHeartbeats 4000000
namespace Go.Proofs.YtefepfiijoafbaaGreat
open Go.RowKit Go.Shelf Go.Maps Go.Sort
attribute [local go_sem] Oper.semAt_some
attribute [local irreducible] wpQuiet
theorem flat4(xs:List Int):xs.flatMap enc4=xs.map (Value.int .u64):=by
 induction xs with
 | nil=>rfl
 | cons x xs ih=>simp [enc4,ih]
theorem field_rk(u n x:Value)(W:World):(Instr.field 164 (.agg #[u,n,x]) 0).run Tryz.prog W = .ok u W:=by kernel_rfl
theorem row_form4{w:World}{base:Nat}{v:Value}{xs:List Int}(h:Row w base v xs):∃ a cap,v = .slice a xs.length cap:=row_form h
theorem row_sorted{w:World}{base:Nat}{v:Value}{us:List Int}(h:w.ownsRow base 33 1 v us.length ((us.mergeSort fun x y=>decide (x≤y)).map (Value.int .u64))):Row w base v (us.mergeSort fun x y=>decide (x≤y)):=by
 unfold Row;rw[(List.mergeSort_perm us _).length_eq];exact h
structure OrdI(base hb:Nat)(down:Bool)(H:Int→List Val)(us:List Int)(W8:World)(k:Nat)(wr:World):Prop where
 out:∃ v Hp,HpAt wr base hb v down Hp∧Hp.Perm ((us.take k).map (rkOf H))∧Fr (fun q=>q=hb) W8 wr
structure OrdO(base hb:Nat)(down:Bool)(all:List Rk)(W9:World)(q0:Option Nat)(ov:Value)(wr:World):Prop where
 out:∃ v Hp os,HpAt wr base hb v down Hp∧v.ownBlock=q0∧Taken down all os Hp∧wr.ownsRow W9.heap.size 33 1 ov os.length ((os.map (·.uid)).map (Value.int .u64))∧Fr (fun q=>q=hb∨q0=some q) W9 wr
theorem HpAt.frT{T:Nat→Prop}{W W':World}{base hb:Nat}{v:Value}{down:Bool}{H:List Rk}(h:HpAt W base hb v down H)(hf:Fr T W W')(h1:¬ T hb)(h2:∀ k,v.ownBlock=some k→¬ T k):HpAt W' base hb v down H:=
 ⟨h.row.fr hf h2,(hf.at h1 (lt_of_block h.box)).trans h.box,h.ord,h.ok⟩
def OrdPost(W:World)(down:Bool)(H:Int→List Val)(us:List Int)(e:Ending)(w':World):Prop:=
 ∃ v xs,e = .returned (.tuple #[v,.int .i64 0])∧w'.ownsRow W.heap.size 33 1 v xs.length (xs.map (Value.int .u64))∧Ordered down H us xs∧Fr N0 W w'
theorem iorder_any(W:World)(R:Nat→Prop)(p:Nat)(l:PL)(N:Nat)(h:IsPL W R p l)(hR:∀ k,R k→k < W.heap.size)(hl:l.AtOk N)(hN:N≤8000000000)(t:Int)(down:Bool)(b:Nat)(v:Value)(us:List Int)
  (hus:RowsK enc4 1 W b v us) (hlu:us.length≤4000000000) (hok:∀ u ∈ us,(rkOf (haveAt l t) u).Ok) (hso:l.s.order=true) (hsl:l.s.list=false) (ht:¬ t < l.marked) :
  Calls Tryz.prog 27 #[.pointer (some ⟨p,0,none⟩),.int .u64 t,.bool down,v] W (OrdPost W down (haveAt l t) (normU us)):=by
 obtain⟨i0,hi,hz0,hz1,hz2⟩:=info_parts ins4_info
 obtain⟨ks,hks⟩:=exists_nodes l t
 obtain⟨H,hH⟩:∃ H,haveAt l t=H:=⟨_,rfl⟩
 have hsc:=fun w1 (hf:Fr N0 W w1)=>schema_any w1 R p l (h.fr hf fun _ _=>id) hl.pred
 have hmk:=fun w1 (hf:Fr N0 W w1)=>marked_any w1 R p l (h.fr hf fun _ _=>id) hl.pred
 have hia:=fun w1 (hf:Fr N0 W w1)=>iat_any w1 R p l N (h.fr hf fun _ _=>id) (fun k hk=>Nat.lt_of_lt_of_le (hR k hk) hf.size) hl hN t ks hks
 have hcl:=fun w1 (hf:Fr N0 W w1)=>clone4_any w1 b v us (rowsK_frT (enc:=enc4) (n:=1) ins4_len hus hf fun _=>id) (by omega)
 have hpr:0 < l.s.pred.size:=hl.pred
 simp only [hH] at hia hok ⊢
 have HSC:=hhd hsc;have HMK:=hhd hmk;have HIA:=hhd hia;have HCL:=hhd hcl;have HOK:=hhd hok
 clear hsc hmk hia hcl hok h hR hl hks hus
 obtain⟨⟨sp,st,sl,se,sm,so,sr,sc⟩,mk,ts,cms⟩:=l
 simp only [Sch.enc] at *
 subst hso hsl
 have h1:¬ sp.toList = []:=by
  intro h
  have:sp.toList.length=0:=by rw[h];rfl
  rw[ByteArray.toList_eq,Array.length_toList] at this
  have e:sp.data.size=sp.size:=rfl
  have hpr':0 < sp.size:=hpr
  omega
 have h2:(!sp.toList.isEmpty)=true:=by simpa using h1
 have h3:sp.toList.isEmpty=false:=by simpa using h1
 go_enter Tryz.func27,Tryz.ntmps27
 go_wp2_with (first
  |(go_at_call 81;go_loud (refine(HSC.out _ (Fr.refl _ _)).mono ?_);rintro e w1 ⟨rfl,hf1⟩)
  |(go_at_call 82;refine(HMK.out _ (hf1.alloc _)).mono ?_;rintro e w2 ⟨rfl,hf2⟩;have hft2:=(hf1.alloc _).then0 hf2)
  |(go_at_call 83;refine(HIA.out _ hft2).mono ?_;rintro e w3 ⟨px,bn,bb,rfl,hlk3,hf3⟩;have hft3:=hft2.then0 hf3)
  |(go_at_call 74;refine(HCL.out _ (hft3.alloc _)).mono ?_;rintro e w4 ⟨v4,rfl,hrow4,-,hf4⟩;rw[flat4] at hrow4)
  |(go_at_call 84;refine(sort4_any w4 _ v4 us hrow4 (by omega)).mono ?_;rintro e w5 ⟨rfl,hrow5,hf5⟩)
  |(go_at_call 85;refine(compact_any w5 _ v4 (us.mergeSort fun x y=>decide (x≤y)) (row_sorted hrow5) (by rw[(List.mergeSort_perm us _).length_eq];omega)).mono ?_;rintro e w6 ⟨v6,rfl,hrow6,hf6⟩;obtain⟨a6,c6,rfl⟩:=row_form4 hrow6))
 clear HSC HMK HIA HCL h1 h2 h3 hpr hf1 hf2 hft2
 have hown4:∀ k,v4.ownBlock=some k→w3.heap.size+1≤k:=fun k hk=>by have:=(ownsRow_lt hrow4 k hk).1;simpa using this
 have hf36:Fr N0 w3 w6:=((((Fr.refl N0 w3).alloc _).then0 hf4).trans hf5 fun k hk=>.inr (by have:=hown4 k hk;omega)).trans hf6 fun k hk=>.inr (by have:=hown4 k hk;omega)
 have hq6:QBox w6 w3.heap.size (.slice none 0 0) down:=by
  have e0:QBox _ _ _ _:=World.alloc_heap_new w3 (.cells #[.slice none 0 0,.bool down] 161)
  have e1:=e0.fr0 hf4
  have n4:v4.ownBlock≠some w3.heap.size:=fun e=>by have:=hown4 _ e;omega
  have e2:QBox w5 w3.heap.size (.slice none 0 0) down:=(hf5.at n4 (lt_of_block e1)).trans e1
  exact(hf6.at n4 (lt_of_block e2)).trans e2
 have hown6:∀ k,(Value.slice a6 (normU us).length c6).ownBlock=some k→w3.heap.size+1≤k∧k < w6.heap.size:=fun k hk=>by have:=ownsRow_lt hrow6 k hk;simpa using this
 have hrow7:Row w6 (w3.heap.size+1) (.slice a6 (normU us).length c6) (normU us):=by rw[← World.size_alloc w3 (.cells #[.slice none 0 0,.bool down] 161)];exact hrow6
 have hokn:∀ u ∈ normU us,(rkOf H u).Ok:=fun u hu=>HOK.out u ((normU_mem us u).1 hu)
 have hlen:(normU us).length≤4000000000:=Nat.le_trans (normU_len us) hlu
 have hz36:=hf36.size
 have hz3:=hft3.size
 have hz63:w3.heap.size < w6.heap.size:=lt_of_block hq6
 clear hrow4 hrow5 hrow6 hf4 hf5 hf6 hown4
 obtain⟨hb,hhb⟩:∃ hb,w3.heap.size=hb:=⟨_,rfl⟩
 obtain⟨base,hbase⟩:∃ base,w6.heap.size=base:=⟨_,rfl⟩
 have hx0:comp (us.mergeSort fun x y=>decide (x≤y))=normU us:=rfl
 obtain⟨xs,hxs⟩:∃ xs,normU us=xs:=⟨_,rfl⟩
 rw[hx0,hxs,hhb]
 rw[hxs] at hown6 hrow7 hokn hlen
 rw[hhb] at hown6 hrow7 hq6 hz36 hz3 hz63
 rw[hbase] at hown6 hz36 hz63
 obtain⟨n,hn⟩:∃ n,xs.length=n:=⟨_,rfl⟩
 rw[hn] at hown6 hrow7 hlen ⊢
 have HN:=hhd hn;have HXS:=hhd hxs;have HB:=hhd hhb;have HBA:=hhd hbase;have HLK:=hhd hlk3;have H36:=hhd hf36;have HF3:=hhd hft3;have HQ:=hhd hq6;have HO6:=hhd hown6;have HR7:=hhd hrow7;have HOKN:=hhd hokn
 have HINFO:Hid (Tryz.prog.info? 33=some i0∧i0.zero=some (.int .u64 0)∧i0.size=1∧i0.bytes=8):=hhd ⟨hi,hz0,hz1,hz2⟩
 clear hn hxs hx0 hhb hbase hlk3 hf36 hft3 hq6 hown6 hrow7 hokn hH hi hz0 hz1 hz2
 go_wp2
 go_loopw [51] (fun sk wr=>∃ k:Nat,k≤n∧sk = .int .i64 k∧OrdI base hb down H xs w6 k wr) (fun sk _=>n - (intOf sk).toNat)
 case atStart=>
  refine⟨0,by omega,by go_num,⟨_,[],⟨World.ownsRow_nil _ _ _ _,HQ.out,fun i h0 h1=>by simp at h1,by simp⟩,by simp,Fr.refl _ _⟩⟩
 case round=>
  obtain⟨k,hk,rfl,⟨v7,Hp,hp,hperm,hfr⟩⟩:=hrel
  have hf37:Fr N0 w3 wr:=H36.out.trans hfr fun k hk=>.inr (by rw[HB.out];omega)
  have hz7:=hf37.size
  have hz67:=hfr.size
  have hrw:Row wr (hb+1) (.slice a6 n c6) xs:=ownsRow_fr HR7.out hfr fun j hj e=>by have:=(HO6.out j hj).1;omega
  have hlp:Hp.length=k:=by rw[hperm.length_eq];simp;rw[HN.out];omega
  have hnr:base≤wr.heap.size:=by rw[← HBA.out];exact hz67
  by_cases hlt:k < n
  ·have hx:k < xs.length:=by rw[HN.out];exact hlt
   have htk:xs.take (k+1)=xs.take k ++ [xs[k]]:=take_succ xs hx
   obtain⟨x,hx'⟩:∃ x,xs[k]=x:=⟨_,rfl⟩
   have hxm:x ∈ xs:=by rw[← hx'];exact List.getElem_mem hx
   have hxo:=HOKN.out x hxm
   obtain⟨g,rfl⟩:∃ g,a6=some ⟨g,0,none⟩:=by
    rcases hrw.2 with⟨e,h0⟩ | ⟨g,cap,cur,e,_⟩
    ·rw[HN.out] at h0;omega
    ·simp only [Value.slice.injEq] at e;exact⟨g,e.1⟩
   have hrw':wr.ownsRow (hb+1) 33 1 (.slice (some ⟨g,0,none⟩) n c6) n (xs.map (Value.int .u64)):=by have:=hrw;unfold Row at this;rw[HN.out] at this;exact this
   have e1:wr.cell? ⟨g,k,none⟩=some (.int .u64 x):=by rw[hrw'.cellAt _ (by omega),List.getElem?_map,List.getElem?_eq_getElem hx,hx'];rfl
   rw[hx'] at htk
   have hkn:(k:Int) < (n:Int):=by omega
   obtain⟨wa,hwa⟩:∃ wa,wr.alloc (.cells #[.int .u64 x,.int .i64 0,.bool false] 164)=wa:=⟨_,rfl⟩
   have hfa:Fr N0 wr wa:=by rw[← hwa];exact(Fr.refl _ _).alloc _
   have hla:=HLK.out.fr (hf37.then0 hfa)
   have cx:=hla.cx.1
   obtain⟨F,hmF,hrF⟩:=hla.nodes
   have hwf:(Lit.int .u64 x).wf=true:=by
    have:=hxo.u;rw[rkOf_uid] at this
    simp [Lit.wf,IntKind.min,IntKind.max,IntKind.bits,IntKind.signed];omega
   have hku:=keyOf_int_mk (P:=Tryz.prog) Tryz.underlying33 hwf
   obtain⟨g0,hrow0,-⟩:=hrF.at x
   have hlk:(Instr.lookup 165 (.map (some bn)) (.int .u64 x) false).run Tryz.prog wa = .ok ((F (litU x)).getD (.slice none 0 0)) wa:=(hmF.look lawU Tryz.underlying165 (zeroValsR _) hku).1
   obtain⟨z0,hz0⟩:∃ z,(F (litU x)).getD (.slice none 0 0)=z:=⟨_,rfl⟩
   rw[hz0] at hlk hrow0
   have hpu:=fun w' (hf:Fr N0 wr w')=>heapPush_any w' base hb v7 down Hp (hp.fr hf) (Nat.le_trans hnr hf.size) (by omega) (rkOf H x) hxo
   have hend:∀ w1 w2 v8 H8,Fr N0 wr w1→HpAt w2 base hb v8 down H8→H8.Perm (Hp ++ [rkOf H x])→Fr (fun q=>q=hb∨v7.ownBlock=some q) w1 w2→OrdI base hb down H xs w6 (k+1) w2:=fun w1 w2 v8 H8 f1 h8 p8 f2=>
    ⟨v8,H8,h8,by rw[htk,List.map_append];exact p8.trans (List.Perm.append_right _ hperm),(hfr.then0 f1).trans f2 fun q hq=>by
     rcases hq with hq | hq
     ·exact .inl hq
     ·exact .inr (by have:=(ownsRow_lt hp.row q hq).1;rw[HBA.out];exact this)⟩
   have HPU:=hhd hpu;have HEND:=hhd hend;have HWA:=hhd hwa
   clear hpu hend hmF hrF hp hperm hla hfa hrw hrw' htk hx' hxm hxo hx hku hz0
   cases hHx:H x with
   | nil=>
    have er:rkOf H x=⟨x,0,false⟩:=by unfold rkOf;rw[hHx]
    simp only [er] at HPU HEND
    rw[hHx] at hrow0
    obtain⟨a0,off0,cap0,rfl,-⟩:=hrow0
    subst hwa
    go_wp2_with (go_at_call 86;refine(HPU.out _ ((Fr.refl N0 wr).alloc _)).mono ?_;rintro e w9 ⟨⟨u9,rfl⟩,v8,H8,h8,p8,-,f8⟩)
    go_roundw
    case rel=>exact⟨k+1,by omega,by go_num,HEND.out _ _ _ _ ((Fr.refl N0 wr).alloc _) h8 p8.out f8⟩
    case measure=>simp [intOf];omega
   | cons z zs=>
    have er:rkOf H x=⟨x,z.n,true⟩:=by unfold rkOf;rw[hHx]
    simp only [er] at HPU HEND
    rw[hHx] at hrow0
    obtain⟨m,hm⟩:∃ m,(z :: zs).length=m:=⟨_,rfl⟩
    have hm0:(0:Int) < (m:Int):=by rw[← hm];simp
    obtain⟨a0,off0,cap0,rfl,-,-,k3,-,k5⟩:=hrow0
    obtain rfl:=k3 (by simp)
    have e2:wa.cell? ⟨g0,off0+2,none⟩=some (.int .i64 z.n):=by
     have:=k5 0 (by simp) 2 (by decide)
     simpa [Val.enc] using this
    rw[hm] at hlk
    clear k3 k5 hm hHx er
    subst hwa
    go_wp2_with (go_at_call 86;refine(HPU.out _ ((Fr.refl N0 wr).alloc _)).mono ?_;rintro e w9 ⟨⟨u9,rfl⟩,v8,H8,h8,p8,-,f8⟩)
    go_roundw
    case rel=>exact⟨k+1,by omega,by go_num,HEND.out _ _ _ _ ((Fr.refl N0 wr).alloc _) h8 p8.out f8⟩
    case measure=>simp [intOf];omega
  ·obtain rfl:k=n:=by omega
   have hall:Hp.Perm (xs.map (rkOf H)):=by have:=hperm;rwa [List.take_of_length_le (by rw[HN.out];exact Nat.le_refl _)] at this
   have hdone:∀ (os:List Rk) w' ov Hp',Taken down (xs.map (rkOf H)) os Hp'→Hp'.length=0→w'.ownsRow wr.heap.size 33 1 ov os.length ((os.map (·.uid)).map (Value.int .u64))→Fr (fun q=>q=hb∨v7.ownBlock=some q) wr w'→OrdPost W down H xs (.returned (.tuple #[ov,.int .i64 0])) w':=fun os w' ov Hp' ht h0 hr hf=>by
    obtain rfl:=List.eq_nil_of_length_eq_zero h0
    refine⟨ov,os.map (·.uid),rfl,?_,⟨os,rfl,by simpa using ht.perm,ht.rises⟩,?_⟩
    ·rw[List.length_map];exact ownsRow_base hr (by have:=HF3.out.size;omega)
    ·exact(HF3.out.then0 hf37).trans hf fun q hq=>.inr (by
      have:=HF3.out.size
      rcases hq with hq | hq
      ·subst hq;rw[← HB.out];exact this
      ·have:=(ownsRow_lt hp.row q hq).1;omega)
   have hlt0:Taken down (xs.map (rkOf H)) [] Hp:=taken_start hall
   obtain⟨q0,hq0⟩:∃ q,v7.ownBlock=q:=⟨_,rfl⟩
   simp only [hq0] at hdone
   have hql:∀ q,q0=some q→q < wr.heap.size:=fun q hq=>(ownsRow_lt hp.row q (hq0.trans hq)).2
   have hhl:hb < wr.heap.size:=by omega
   have HDONE:=hhd hdone;have HQL:=hhd hql
   have h0:OrdO base hb down (xs.map (rkOf H)) wr q0 (.slice none 0 0) wr:=⟨v7,Hp,[],hp,hq0,hlt0,World.ownsRow_nil _ _ _ _,Fr.refl _ _⟩
   have hln:(xs.map (rkOf H)).length=k:=by rw[List.length_map,HN.out]
   obtain⟨all,hal⟩:∃ all,xs.map (rkOf H)=all:=⟨_,rfl⟩
   rw[hal] at h0 hln
   have HDONE2:=HDONE
   rw[hal] at HDONE2
   have HLN:=hhd hln
   clear hdone hql hall hperm hp hlt0 hq0 hrw hal hln HDONE hfr hf37
   obtain⟨w8,hw8⟩:∃ w,w=wr:=⟨_,rfl⟩
   subst hw8
   go_wp2
   go_loopw [18] (fun ov wx=>OrdO base hb down all w8 q0 ov wx) (fun ov _=>k+1 - (match ov with | .slice _ m _=>m | _=>0))
   case atStart=>exact h0
   case round=>
    obtain⟨v8,H8,os,h8,hq8,ht8,hr8,hf8⟩:=hrel
    obtain⟨oa,oc,rfl⟩:=row_form hr8
    have hol:os.length+H8.length=k:=by have:=ht8.perm.length_eq;rw[HLN.out,List.length_append] at this;exact this
    have HR8:=hhd hr8;have HF8:=hhd hf8;have HH8:=hhd h8;have HT8:=hhd ht8;have HQ8:=hhd hq8
    clear hr8 hf8 h8 ht8 hq8 h0
    by_cases hz:H8.length=0
    ·have hln:=fun w (h:HpAt w base hb v8 down H8)=>qlen_at h.box h.row
     rw[hz] at hln
     have HLN8:=hhd hln
     clear hln
     go_wp2_with (go_at_call 87;refine(HLN8.out _ HH8.out).mono ?_;rintro e w9 ⟨rfl,hf9⟩)
     exact bodyPost_ret (v:=.tuple #[.slice oa os.length oc,.int .i64 0]) (by simp [results,Tryz.results27,go_sem]) rfl (by rw[HXS.out];exact HDONE2.out os w9 _ H8 HT8.out hz (HR8.out.fr0 hf9) (HF8.out.then0 hf9))
    ·obtain⟨m,hm⟩:∃ m,H8.length=m:=⟨_,rfl⟩
     have hm0:(0:Int) < (m:Int):=by omega
     have hln:=fun w (h:HpAt w base hb v8 down H8)=>qlen_at h.box h.row
     have hpo:=fun w (h:HpAt w base hb v8 down H8)=>heapPop_any w base hb v8 down H8 h (by omega) (by omega)
     have hmin:=hp_min_mem HH8.out.ord (by omega)
     obtain⟨top,htop⟩:∃ x,H8[0]=x:=⟨_,rfl⟩
     rw[htop] at hmin
     simp only [htop] at hpo
     rw[hm] at hln
     obtain⟨j,hj⟩:∃ j,os.length=j:=⟨_,rfl⟩
     have HR8':Hid (wr.ownsRow w8.heap.size 33 1 (.slice oa j oc) j ((os.map (·.uid)).map (Value.int .u64))):=hhd (by rw[← hj];exact HR8.out)
     rw[hj]
     have hjl:j < k∧j≤4000000000:=by omega
     have hz8:=HF8.out.size
     have HLN8:=hhd hln;have HPO:=hhd hpo;have HMIN:=hhd hmin;have HJ:=hhd hj
     clear hln hpo hmin htop hm hj
     obtain⟨hi,hz0,hz1,hz2⟩:=HINFO.out
     have hfd:=field_rk (.int .u64 top.uid) (.int .i64 top.n) (.bool top.some)
     have hta:=assert_rk (.agg #[.int .u64 top.uid,.int .i64 top.n,.bool top.some])
     go_wp2_with (first
      |(go_at_call 87;refine(HLN8.out _ HH8.out).mono ?_;rintro e w9 ⟨rfl,hf9⟩)
      |(go_at_call 88;refine(HPO.out _ (HH8.out.fr hf9)).mono ?_;rintro e w10 ⟨rfl,v10,H10,h10,p10,o10,hf10⟩;have hz10:=hf10.size;have hz9:=hf9.size;have hrow10:w10.ownsRow w8.heap.size 33 1 (.slice oa j oc) j ((os.map (·.uid)).map (Value.int .u64)):=ownsRow_fr (HR8'.out.fr0 hf9) hf10 (fun i hi e=>by
        have h1:=(ownsRow_lt HR8'.out i hi).1
        rcases e with e | e
        ·omega
        ·have:=HQL.out i (HQ8.out.symm.trans e);omega))
      |(at_builtin;go_loud (refine wpList_append_lies _ rfl _ _ 35 rfl (w8.heap.size) 33 i0 (.int .u64 0) 1 8 Tryz.underlying35 hi hz0 hz1 hz2 rfl (by decide) (.slice oa j oc) (j) _ rfl (hrow10.alloc _) ⟨w10.heap.size,0,none⟩ 1 1 [.int .u64 top.uid] rfl rfl (World.news_of_block (cs:=#[.int .u64 top.uid]) (t:=33) (fr:=(0,0)) (heap_alloc_new w10 _)) (by simp [Value.oneCell']) (by omega) (by unfold maxLen;omega) (by omega) (by simp;omega) (w10.heap.size+1) (by simp) ?_);intro g1 cap1 w3 hown3 hgrow3 hfresh3 hlt3))
     go_roundw
     case rel=>
      have hfa:Fr (fun q=>(Value.slice oa j oc).ownBlock=some q) _ w3:=(Fr.refl _ _).grown hgrow3 fun j e=>.inl e
      have hn10:∀ q,(q=hb∨q0=some q)→¬(Value.slice oa j oc).ownBlock=some q:=fun q hq e=>by
       have h1:=(ownsRow_lt HR8'.out q e).1
       rcases hq with hq | hq
       ·omega
       ·have:=HQL.out q hq;omega
      have hown10:v10.ownBlock=q0:=o10.trans HQ8.out
      refine⟨v10,H10,os ++ [top],(h10.fr ((Fr.refl N0 w10).alloc _)).frT hfa (hn10 hb (.inl rfl)) (fun q hq=>hn10 q (.inr (hown10.symm.trans hq))),hown10,taken_step HT8.out p10.out HMIN.out,?_,?_⟩
      ·have e1:(os ++ [top]).length=j+1:=by simp [HJ.out]
       rw[e1];simpa using hown3
      ·refine(((HF8.out.then0 hf9).trans hf10 fun q hq=>.inl ?_).alloc _).trans hfa fun q hq=>.inr (ownsRow_lt HR8'.out q hq).1
       rw[HQ8.out] at hq;exact hq
     case measure=>simp;omega
end Go.Proofs.YtefepfiijoafbaaGreat
