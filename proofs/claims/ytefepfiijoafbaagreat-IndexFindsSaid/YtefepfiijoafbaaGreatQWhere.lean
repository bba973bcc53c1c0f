/- IAt IAt2 ValF Sort4 Where -/
import Derived.Test.YtefepfiijoafbaaGreatQLookP
import Derived.Test.YtefepfiijoafbaaGreatQItB
import Derived.Test.YtefepfiijoafbaaGreatQDelW
import Derived.Test.YtefepfiijoafbaaGreatQValR
import Derived.Test.YtefepfiijoafbaaGreatQIterH
set_option linter.unusedVariables false
set_option linter.unusedSimpArgs false
set_option maxRecDepth 100000
set_option maxHeartbeats 4000000
namespace Go.Proofs.YtefepfiijoafbaaGreat
section
open Go.RowKit Go.Shelf Go.Maps
attribute [local go_sem] Oper.semAt_some
attribute [local irreducible] wpQuiet
structure ItAt(lo b5 px bn bb:Nat)(S:Nat→Prop)(pre:List (Int × Val))(W:World)(F:Lit→Option Value)(g:Int→Nat)(R:Nat→Prop)(FB:Lit→Option Value)(gB:Int→Nat)(RB:Nat→Prop):Prop where
 c5:W.cell? ⟨b5,0,none⟩=some (.pointer (some ⟨px,0,none⟩))
 cx:W.cell? ⟨px,1,none⟩=some (.map (some bn))∧W.cell? ⟨px,2,none⟩=some (.map (some bb))
 mapN:MapF Tryz.prog 33 W bn pre.length F
 rowN:OwnR Val.enc 5 57 W lo bn (lookN pre) F g R
 mapB:MapF Tryz.prog 33 W bb pre.length FB
 rowB:OwnR enc4 1 33 W lo bb (lookB pre) FB gB RB
 apN:∀ j,R j→¬ RB j∧j≠bb∧j≠b5∧j≠px
 apB:∀ j,RB j→j≠bn∧j≠b5∧j≠px
 inS:∀ j,(j=b5∨j=px∨j=bn∨j=bb∨R j∨RB j)→S j
 ap:b5≠bn∧b5≠bb∧px≠bn∧px≠bb∧bn≠bb
def ItI(lo b5 px bn bb:Nat)(S:Nat→Prop)(pre:List (Int × Val))(W:World):Prop:=∃ F g R FB gB RB,ItAt lo b5 px bn bb S pre W F g R FB gB RB
theorem ItAt.fr{T:Nat→Prop}{lo b5 px bn bb:Nat}{S:Nat→Prop}{pre:List (Int × Val)}{W W':World}{F:Lit→Option Value}{g:Int→Nat}{R:Nat→Prop}{FB:Lit→Option Value}{gB:Int→Nat}{RB:Nat→Prop}
  (h:ItAt lo b5 px bn bb S pre W F g R FB gB RB) (hf:Fr T W W') (hT:∀ j,S j→¬ T j):ItAt lo b5 px bn bb S pre W' F g R FB gB RB where
 c5:=hf.cell (hT _ (h.inS _ (.inl rfl))) h.c5
 cx:=⟨hf.cell (hT _ (h.inS _ (.inr (.inl rfl)))) h.cx.1,hf.cell (hT _ (h.inS _ (.inr (.inl rfl)))) h.cx.2⟩
 mapN:=h.mapN.fr hf (hT _ (h.inS _ (.inr (.inr (.inl rfl)))))
 rowN:=h.rowN.fr hf fun j hj=>hT _ (h.inS _ (.inr (.inr (.inr (.inr (.inl hj))))))
 mapB:=h.mapB.fr hf (hT _ (h.inS _ (.inr (.inr (.inr (.inl rfl))))))
 rowB:=h.rowB.fr hf fun j hj=>hT _ (h.inS _ (.inr (.inr (.inr (.inr (.inr hj))))))
 apN:=h.apN
 apB:=h.apB
 inS:=h.inS
 ap:=h.ap
theorem itI_stable(lo b5 px bn bb:Nat):Stable (ItI lo b5 px bn bb):=fun S pre A B ⟨F,g,R,FB,gB,RB,h⟩ hs=>
 ⟨F,g,R,FB,gB,RB,h.fr (T:=fun k=>¬ S k) (SameOn.mono hs fun k hk _=>Classical.not_not.1 hk) fun j hj hn=>hn hj⟩
noncomputable def itC5:Code:=itSnd itLoop
theorem it_round(l:Nat)(lo b5 px bn bb B N:Nat)(q:ByteArray)(t:Int)(S:Nat→Prop)(pre:List (Int × Val))(x:Int × Val)(W:World)(f:Nat→Value)(hI:ItI lo b5 px bn bb S pre W)(hB:W.heap[B]?=some (.cells #[.int .u64 x.1,.string q,.int .u8 x.2.k,.bool x.2.b,.int .i64 x.2.n,.string x.2.s,.int .u64 x.2.u] 59 (0,0)))(hBS:¬ S B)
  (hlo:lo≤bn∧lo≤bb) (hN:pre.length≤N) (hN':N≤9000000000) (hx:(Lit.int .u64 x.1).wf=true∧(Lit.int .u64 x.2.u).wf=true) (hSW:∀ k,S k→k < W.heap.size)
  (h5:f 5 = .pointer (some ⟨b5,0,none⟩)) (h6:f 6 = .pointer (some ⟨B,0,none⟩)) :
  (Code.block 1 itLoop).wpIn (Fence.wide.inRound l) 7 Tryz.prog (fpPost (ItI lo b5 px bn bb) (fun _ _ _ _=>False) S (pre ++ [x]) W) (frA 57 f) W:=by
 obtain⟨F,g,R,FB,gB,RB,h⟩:=hI
 obtain⟨mB,-,lB⟩:=box_cells hB
 have hS0:ItS b5 px B bn bb t q x W:=⟨h.c5,h.cx,mB 0,mB 2,mB 3,mB 4,mB 5,mB 6⟩
 have e1:=fun(Q:Exit→Act→World→Prop) (f:Nat→Value) h5 h6 hK=>itR4 l (Q:=Q) W lo b5 px B bn bb pre.length t q x (lookN pre) F g R f hS0 h.mapN h.rowN (by have:=h.mapN.lt;omega) (by omega) (Nat.le_trans (lookN_len pre x.1) (by omega)) hx.1
  ⟨fun hr=>(h.apN _ hr).2.2.1 rfl,h.ap.1⟩ ⟨fun hr=>(h.apN _ hr).2.2.2 rfl,h.ap.2.2.1⟩ ⟨fun hr=>hBS (h.inS _ (.inr (.inr (.inr (.inr (.inl hr)))))),fun e=>hBS (h.inS _ (.inr (.inr (.inl e))))⟩ hlo.1 h5 h6 hK
 have E1:=hhd e1;have HH:=hhd h;have H5:=hhd h5;have H6:=hhd h6;have HB:=hhd hB
 have HS0:=hhd hS0
 clear e1 h mB lB hS0 hB
 show Code.wpIn _ _ _ (Code.block 1 (Code.seq itC4 itC5)) _ _ _
 refine wpIn_block ?_
 refine wpIn_seq ?_
 refine E1.out _ f H5.out H6.out fun f' W' v' g' g2 h5' h6' hS' hm' hr' hg' hfr'=>?_
 have hz':=hfr'.size
 have hlB:=lt_of_block HB.out
 have hmB:MapF Tryz.prog 33 W' bb pre.length FB:=HH.out.mapB.fr hfr' fun h=>h.elim (fun e=>HH.out.ap.2.2.2.2 e.symm) fun h=>(HH.out.apN _ h).2.1 rfl
 have hrB:OwnR enc4 1 33 W' lo bb (lookB pre) FB gB RB:=HH.out.rowB.fr hfr' fun j hj h=>h.elim (fun e=>(HH.out.apB j hj).1 e) fun h=>(HH.out.apN j h).1 hj
 have hg0:R g'∨W.heap.size≤g':=hg'
 have hRB0:∀ j,RB j→j≠g':=fun j hj e=>by
  rcases hg0 with h | h
  ·exact(HH.out.apN _ h).1 (e ▸ hj)
  ·have:=hSW j (HH.out.inS j (.inr (.inr (.inr (.inr (.inr hj))))));omega
 have hbs:∀ j,(j=b5∨j=px∨j=bn∨j=bb)→j≠g':=fun j hj e=>by
  have hj2:=hSW j (HH.out.inS j (by rcases hj with h | h | h | h <;> simp [h]))
  rcases hg0 with h | h
  ·have h2:=HH.out.apN _ h
   have h3:=(HH.out.rowN.lt _ h).2.2
   subst e
   rcases hj with h' | h' | h' | h'
   ·exact h2.2.2.1 h'
   ·exact h2.2.2.2 h'
   ·exact h3 h'
   ·exact h2.2.1 h'
  ·omega
 have hltg:g' < W'.heap.size:=(hr'.lt g' (.inr rfl)).2.1
 have hfS:Fr S W W':=hfr'.mono fun j hj=>.inl (HH.out.inS j (hj.elim (fun h=>.inr (.inr (.inl h))) fun h=>.inr (.inr (.inr (.inr (.inl h))))))
 have hkeep:∀ k,k=4∨k≠4:=fun k=>by omega
 have HS':=hhd hS';have HM':=hhd hm';have HR':=hhd hr';have HMB:=hhd hmB;have HRB:=hhd hrB;have HFS:=hhd hfS;have H5':=hhd h5';have H6':=hhd h6';have HB0:=hhd hRB0;have HBS2:=hhd hbs
 clear hS' hm' hr' hmB hrB hfr' hfS hg' hRB0 hbs E1
 have k3:=HS'.out.2.2.2.1
 obtain⟨u,⟨vk,vb,vn,vs,vu⟩⟩:=x
 simp only at *
 show Code.wpIn _ _ _ itC5 _ (frA 57 f') _
 show Code.wpIn _ _ _ _ _ { tmps:=((List.range 57).map f').toArray,defers:=[] } _
 have hfe:((List.range 57).map f').toArray=(#[f' 0,f' 1,f' 2,f' 3,f' 4,f' 5,f' 6,f' 7,f' 8,f' 9,f' 10,f' 11,f' 12,f' 13,f' 14,f' 15,f' 16,f' 17,f' 18,f' 19,f' 20,f' 21,f' 22,f' 23,f' 24,f' 25,f' 26,f' 27,f' 28,f' 29,f' 30,f' 31,f' 32,f' 33,f' 34,f' 35,f' 36,f' 37,f' 38,f' 39,f' 40,f' 41,f' 42,f' 43,f' 44,f' 45,f' 46,f' 47,f' 48,f' 49,f' 50,f' 51,f' 52,f' 53,f' 54,f' 55,f' 56]:Array Value):=rfl
 rw[hfe,h5',h6',h5,h6]
 clear hfe h5' h6' h5 h6
 conv=>arg 4;whnf
 by_cases hk4:vk=4
 ·subst hk4
  have hrR:∀ j,(R j∨j=g')→¬ RB j∧j≠bb∧j≠b5∧j≠px:=fun j hj=>by
   rcases hj with hj | rfl
   ·exact HH.out.apN j hj
   ·exact⟨fun h=>HB0.out _ h rfl,fun e=>HBS2.out bb (by simp) e.symm,fun e=>HBS2.out b5 (by simp) e.symm,fun e=>HBS2.out px (by simp) e.symm⟩
  gi_wp2
  rw[cut_mk (n:=57) _ rfl]
  refine itR6 l W' lo b5 px B bn bb pre.length t q (u,⟨4,vb,vn,vs,vu⟩) (lookB pre) FB gB RB _ HS'.out HMB.out HRB.out (by have:=HMB.out.lt;omega) (by omega) (Nat.le_trans (lookB_len pre vu) (by omega)) hx.2
   ⟨fun hr=>(HH.out.apB _ hr).2.1 rfl,HH.out.ap.2.1⟩ ⟨fun hr=>(HH.out.apB _ hr).2.2 rfl,HH.out.ap.2.2.2.1⟩ ⟨fun hr=>hBS (HH.out.inS _ (.inr (.inr (.inr (.inr (.inr hr)))))),fun e=>hBS (HH.out.inS _ (.inr (.inr (.inr (.inl e)))))⟩ hlo.2 rfl rfl
   fun f2 W2 v2 gB' gB2 e5 e6 hS2 hm2 hr2 hg2 hfr2=>?_
  have hz2:=hfr2.size
  have hT:∀ j,(R j∨j=g')→¬(j=bb∨RB j):=fun j hj h=>h.elim (hrR j hj).2.1 (hrR j hj).1
  have hgB0:∀ j,(R j∨j=g')→j≠gB':=fun j hj e=>by
   rcases hg2 with h | h
   ·exact(hrR j hj).1 (e ▸ h)
   ·have:=(HR'.out.lt j hj).2.1;omega
  have hbs2:∀ j,(j=b5∨j=px∨j=bn)→j≠gB':=fun j hj e=>by
   have hj2:=hSW j (HH.out.inS j (by rcases hj with h | h | h <;> simp [h]))
   rcases hg2 with h | h
   ·have h2:=HH.out.apB _ h
    subst e
    rcases hj with h' | h' | h'
    ·exact h2.2.1 h'
    ·exact h2.2.2 h'
    ·exact h2.1 h'
   ·omega
  have hltB:gB' < W2.heap.size:=(hr2.lt gB' (.inr rfl)).2.1
  refine⟨fun j=>S j∨j=g'∨j=gB',⟨putF F (litU u) (some v'),g2,fun j=>R j∨j=g',putF FB (litU vu) (some v2),gB2,fun j=>RB j∨j=gB',⟨hS2.1,hS2.2.1,?_,?_,?_,?_,?_,?_,?_,HH.out.ap⟩⟩,?_,?_⟩
  ·rw[List.length_append,List.length_singleton];exact HM'.out.fr hfr2 fun h=>h.elim HH.out.ap.2.2.2.2 fun h=>(HH.out.apB _ h).1 rfl
  ·rw[lookN_snoc];exact HR'.out.fr hfr2 hT
  ·rw[List.length_append,List.length_singleton];exact hm2
  ·rw[lookB_snoc4 _ _ rfl];exact hr2
  ·exact fun j hj=>⟨fun h=>h.elim (hrR j hj).1 (hgB0 j hj),(hrR j hj).2⟩
  ·intro j hj
   rcases hj with hj | rfl
   ·exact HH.out.apB j hj
   ·exact⟨fun e=>hbs2 bn (by simp) e.symm,fun e=>hbs2 b5 (by simp) e.symm,fun e=>hbs2 px (by simp) e.symm⟩
  ·intro j hj
   rcases hj with h | h | h | h | (h | h) | (h | h)
   ·exact .inl (HH.out.inS j (.inl h))
   ·exact .inl (HH.out.inS j (.inr (.inl h)))
   ·exact .inl (HH.out.inS j (.inr (.inr (.inl h))))
   ·exact .inl (HH.out.inS j (.inr (.inr (.inr (.inl h)))))
   ·exact .inl (HH.out.inS j (.inr (.inr (.inr (.inr (.inl h))))))
   ·exact .inr (.inl h)
   ·exact .inl (HH.out.inS j (.inr (.inr (.inr (.inr (.inr h))))))
   ·exact .inr (.inr h)
  ·exact HFS.out.trans hfr2 fun j hj=>.inl (HH.out.inS j (hj.elim (fun h=>.inr (.inr (.inr (.inl h)))) fun h=>.inr (.inr (.inr (.inr (.inr h))))))
  ·intro j hj
   rcases hj with h | rfl | rfl
   ·exact⟨.inl h,by have:=hSW j h;omega⟩
   ·exact⟨hg0.imp (fun h=>HH.out.inS _ (.inr (.inr (.inr (.inr (.inl h)))))) id,by omega⟩
   ·exact⟨hg2.imp (fun h=>HH.out.inS _ (.inr (.inr (.inr (.inr (.inr h)))))) (fun h=>by omega),hltB⟩
 ·have hkf:(vk == 4)=false:=by simpa using hk4
  have hrR:∀ j,(R j∨j=g')→¬ RB j∧j≠bb∧j≠b5∧j≠px:=fun j hj=>by
   rcases hj with hj | rfl
   ·exact HH.out.apN j hj
   ·exact⟨fun h=>HB0.out _ h rfl,fun e=>HBS2.out bb (by simp) e.symm,fun e=>HBS2.out b5 (by simp) e.symm,fun e=>HBS2.out px (by simp) e.symm⟩
  gi_wp2
  refine⟨fun j=>S j∨j=g',⟨putF F (litU u) (some v'),g2,fun j=>R j∨j=g',FB,gB,RB,⟨HS'.out.1,HS'.out.2.1,?_,?_,?_,?_,hrR,HH.out.apB,?_,HH.out.ap⟩⟩,HFS.out,?_⟩
  ·rw[List.length_append,List.length_singleton];exact HM'.out
  ·rw[lookN_snoc];exact HR'.out
  ·exact HMB.out.mono (by simp)
  ·rw[lookB_snoc _ _ hk4];exact HRB.out
  ·intro j hj
   rcases hj with h | h | h | h | (h | h) | h
   ·exact .inl (HH.out.inS j (.inl h))
   ·exact .inl (HH.out.inS j (.inr (.inl h)))
   ·exact .inl (HH.out.inS j (.inr (.inr (.inl h))))
   ·exact .inl (HH.out.inS j (.inr (.inr (.inr (.inl h)))))
   ·exact .inl (HH.out.inS j (.inr (.inr (.inr (.inr (.inl h))))))
   ·exact .inr h
   ·exact .inl (HH.out.inS j (.inr (.inr (.inr (.inr (.inr h))))))
  ·intro j hj
   rcases hj with h | rfl
   ·exact⟨.inl h,by have:=hSW j h;omega⟩
   ·exact⟨hg0.imp (fun h=>HH.out.inS _ (.inr (.inr (.inr (.inr (.inl h)))))) id,hltg⟩
theorem enters_trip1:∀ args w,(callFunc 97 args).run Tryz.prog w = .ok (.enter 97 args) w:=enters_of Tryz.func97 (by kernel_rfl) rfl
theorem trips_any(v:Option Addr)(t:Int)(w:World):Calls Tryz.prog 34 #[.pointer v,.int .u64 t] w fun e w'=>e = .returned (.func (.func 97) #[] #[.pointer (some ⟨w.heap.size,0,none⟩),.pointer (some ⟨w.heap.size+1,0,none⟩)])∧(w.alloc (.cells #[.pointer v] 51)).alloc (.cells #[.int .u64 t] 33)=w':=by
 go_enter Tryz.func34,Tryz.ntmps34
 go_wp2
 go_ret
 exact⟨rfl,rfl⟩
structure LookAt(W:World)(lo px bn bb N:Nat)(H:Int→List Val)(B:Int→List Int):Prop where
 cx:W.cell? ⟨px,1,none⟩=some (.map (some bn))∧W.cell? ⟨px,2,none⟩=some (.map (some bb))
 los:lo≤px∧lo≤bn∧lo≤bb
 nodes:∃ F,MapF Tryz.prog 33 W bn N F∧HRows Val.enc 5 W lo bn H F
 backs:∃ F,MapF Tryz.prog 33 W bb N F∧HRows enc4 1 W lo bb B F
theorem LookAt.fr{W W':World}{lo px bn bb N:Nat}{H:Int→List Val}{B:Int→List Int}(h:LookAt W lo px bn bb N H B)(hf:Fr N0 W W'):LookAt W' lo px bn bb N H B where
 cx:=⟨hf.cell id h.cx.1,hf.cell id h.cx.2⟩
 los:=h.los
 nodes:=by obtain⟨F,h1,h2⟩:=h.nodes;exact⟨F,h1.fr hf id,h2.fr val_len hf fun j h=>h.elim⟩
 backs:=by obtain⟨F,h1,h2⟩:=h.backs;exact⟨F,h1.fr hf id,h2.fr ins4_len hf fun j h=>h.elim⟩
def itIn:Code→Code
 | .block _ c=>c
 | c=>c
noncomputable def itRng:Code:=itIn (itSnd (lvFst (lvSuf 2 ((Tryz.f83.body).getD .skip))))
theorem it_range{Q:Exit→Act→World→Prop}(W5:World)(lo b5 px bn bb Bl Bt N:Nat)(q:ByteArray)(t:Int)(Rl S0:Nat→Prop)(xs:List (Int × Val))(f:Nat→Value)(hseq:SeqOf Tryz.prog 97 #[.pointer (some ⟨Bl,0,none⟩),.pointer (some ⟨Bt,0,none⟩)] (encT q) Rl xs W5)
  (hS0:∀ k,S0 k→¬ Rl k∧k < W5.heap.size) (hRl:∀ k,Rl k→k < W5.heap.size) (h0:ItI lo b5 px bn bb S0 [] W5) (hlo:lo≤bn∧lo≤bb) (hlen:xs.length≤N) (hN:N≤9000000000) (hwf:∀ x ∈ xs,(Lit.int .u64 x.1).wf=true∧(Lit.int .u64 x.2.u).wf=true)
  (h5:f 5 = .pointer (some ⟨b5,0,none⟩)) (h14:f 14 = .func (.func 97) #[] #[.pointer (some ⟨Bl,0,none⟩),.pointer (some ⟨Bt,0,none⟩)])
  (hK:∀ (D:Nat) (S:Nat→Prop) (W:World),ItI lo b5 px bn bb S xs W→Fr S0 W5 W→W.heap[D]?=some (.deferred (some []))→W5.heap.size≤D→¬ S D→Q .normal { (frA 57 f) with defers:=[{ target:=.collected D,args:=#[] }] } W) :
  Code.wp Tryz.prog itRng Q (frA 57 f) W5:=by
 have HSEQ:=hhd hseq;have HS0:=hhd hS0;have HRL:=hhd hRl;have H0:=hhd h0;have HWF:=hhd hwf;have HK:=hhd hK
 clear hseq hS0 hRl h0 hwf hK
 show Code.wp _ _ _ { tmps:=#[f 0,f 1,f 2,f 3,f 4,f 5,f 6,f 7,f 8,f 9,f 10,f 11,f 12,f 13,f 14,f 15,f 16,f 17,f 18,f 19,f 20,f 21,f 22,f 23,f 24,f 25,f 26,f 27,f 28,f 29,f 30,f 31,f 32,f 33,f 34,f 35,f 36,f 37,f 38,f 39,f 40,f 41,f 42,f 43,f 44,f 45,f 46,f 47,f 48,f 49,f 50,f 51,f 52,f 53,f 54,f 55,f 56],defers:=[] } _
 refine wp_rangeA (g:=.tmp 14) (ps:=#[15]) (a:={ tmps:=#[f 0,f 1,f 2,f 3,f 4,f 5,f 6,f 7,f 8,f 9,f 10,f 11,f 12,f 13,f 14,f 15,f 16,f 17,f 18,f 19,f 20,f 21,f 22,f 23,f 24,f 25,f 26,f 27,f 28,f 29,f 30,f 31,f 32,f 33,f 34,f 35,f 36,f 37,f 38,f 39,f 40,f 41,f 42,f 43,f 44,f 45,f 46,f 47,f 48,f 49,f 50,f 51,f 52,f 53,f 54,f 55,f 56],defers:=[] }) (encs:=encT q) (by rw[← h14];rfl) enters_trip1 HSEQ.out (SameOn.refl _ _) (fun _=>rfl) S0 HS0.out HRL.out (ItI lo b5 px bn bb) (fun _ _ _ _=>False) (itI_stable _ _ _ _ _) (fun _ _ _ _ _ h _=>h) H0.out
  (fun x B=>{ tmps:=#[f 0,f 1,f 2,f 3,f 4,f 5,.pointer (some ⟨B,0,none⟩),f 7,f 8,f 9,f 10,f 11,f 12,f 13,f 14,.agg #[.int .u64 x.1,.string q,.int .u8 x.2.k,.bool x.2.b,.int .i64 x.2.n,.string x.2.s,.int .u64 x.2.u],f 16,f 17,f 18,f 19,f 20,f 21,f 22,f 23,f 24,f 25,f 26,f 27,f 28,f 29,f 30,f 31,f 32,f 33,f 34,f 35,f 36,f 37,f 38,f 39,f 40,f 41,f 42,f 43,f 44,f 45,f 46,f 47,f 48,f 49,f 50,f 51,f 52,f 53,f 54,f 55,f 56],defers:=[] })
  (fun x=>.cells #[.int .u64 x.1,.string q,.int .u8 x.2.k,.bool x.2.b,.int .i64 x.2.n,.string x.2.s,.int .u64 x.2.u] 59) ?assign ?body ?done ?stop
 case assign=>
  clear h5 h14
  intro l x W K hK
  simp only [encT]
  have HK2:=hhd hK
  clear hK
  gi_wp2
  exact HK2.out
 case body=>
  intro l B S pre x W hB hBS hI hpre hRW hbd
  have hxm:x ∈ xs:=hpre.subset (by simp)
  have hpl:pre.length≤N:=by have:=hpre.length_le;simp at this;omega
  rw[cut_mk (n:=57) _ rfl]
  exact it_round l lo b5 px bn bb B N q t S pre x W _ hI hB hBS hlo hpl hN (HWF.out x hxm) (fun k hk=>(hbd k hk).2) h5 rfl
 case done=>
  intro D S W hI hf hg hD hwD hSD
  exact HK.out D S W hI hf hD hwD hSD
 case stop=>
  intro D c S pre W hpre h
  exact h.elim
theorem it_tail{Q:Exit→Act→World→Prop}(W:World)(b5 px D:Nat)(f:Nat→Value)(h5:f 5 = .pointer (some ⟨b5,0,none⟩))(c5:W.cell? ⟨b5,0,none⟩=some (.pointer (some ⟨px,0,none⟩)))
  (hQ:∀ tm:Array Value,tm[4]?=some (.pointer (some ⟨px,0,none⟩))→Q .ret { tmps:=tm,defers:=[{ target:=.collected D,args:=#[] }] } W) :
  Code.wp Tryz.prog (lvSuf 3 ((Tryz.f83.body).getD .skip)) Q { (frA 57 f) with defers:=[{ target:=.collected D,args:=#[] }] } W:=by
 have HQ:=hhd hQ
 clear hQ
 show Code.wp _ _ _ { tmps:=#[f 0,f 1,f 2,f 3,f 4,f 5,f 6,f 7,f 8,f 9,f 10,f 11,f 12,f 13,f 14,f 15,f 16,f 17,f 18,f 19,f 20,f 21,f 22,f 23,f 24,f 25,f 26,f 27,f 28,f 29,f 30,f 31,f 32,f 33,f 34,f 35,f 36,f 37,f 38,f 39,f 40,f 41,f 42,f 43,f 44,f 45,f 46,f 47,f 48,f 49,f 50,f 51,f 52,f 53,f 54,f 55,f 56],defers:=[{ target:=.collected D,args:=#[] }] } _
 rw[h5]
 clear h5
 conv=>arg 2;whnf
 go_wp2
 exact HQ.out _ rfl
theorem iat_any(W:World)(R:Nat→Prop)(p:Nat)(l:PL)(N:Nat)(h:IsPL W R p l)(hR:∀ k,R k→k < W.heap.size)(hl:l.AtOk N)(hN:N≤8000000000)(t:Int)(ks:List Int)(hks:NodesOf (haveAt l t) ks) :
  Calls Tryz.prog 83 #[.pointer (some ⟨p,0,none⟩),.int .u64 t] W fun e w'=>∃ px bn bb,e = .returned (.pointer (some ⟨px,0,none⟩))∧LookAt w' W.heap.size px bn bb N (haveAt l t) (lookB (trsOf (haveAt l t) ks))∧Fr N0 W w':=by
 obtain⟨xs,hxs⟩:∃ xs,trsOf (haveAt l t) ks=xs:=⟨_,rfl⟩
 obtain⟨W3,hW3⟩:∃ W3,(((W.alloc (.map #[] 0)).alloc (.map #[] 0)).alloc (.cells #[.int .u64 t,.map (some W.heap.size),.map (some (W.heap.size+1))] 168)).alloc (.cells #[.pointer (some ⟨W.heap.size+2,0,none⟩)] 156)=W3:=⟨_,rfl⟩
 obtain⟨W5,hW5⟩:∃ W5,(W3.alloc (.cells #[.pointer (some ⟨p,0,none⟩)] 51)).alloc (.cells #[.int .u64 t] 33)=W5:=⟨_,rfl⟩
 have hz3:W3.heap.size=W.heap.size+4:=by rw[← hW3];simp
 have hz5:W5.heap.size=W.heap.size+6:=by rw[← hW5];simp [hz3]
 have hf3:Fr N0 W W3:=by rw[← hW3];exact((((Fr.refl _ _).alloc _).alloc _).alloc _).alloc _
 have hf35:Fr N0 W3 W5:=by rw[← hW5];exact((Fr.refl _ _).alloc _).alloc _
 have hB4:W5.heap[W.heap.size+4]?=some (.cells #[.pointer (some ⟨p,0,none⟩)] 51 (0,0)):=by
  rw[← hW5,← hz3];exact(Below.heap_alloc _ _ _ (by simp)).trans (World.alloc_heap_new W3 _)
 have hB5:W5.heap[W.heap.size+5]?=some (.cells #[.int .u64 t] 33 (0,0)):=by
  rw[← hW5]
  have:=World.alloc_heap_new (W3.alloc (.cells #[.pointer (some ⟨p,0,none⟩)] 51)) (.cells #[.int .u64 t] 33)
  rw[World.size_alloc,hz3] at this;exact this
 have hseq:=triples1_seq W5 (W.heap.size+4) (W.heap.size+5) R p l N t ks (h.fr (hf3.then0 hf35) fun _ _=>id) (fun k hk=>by have:=hR k hk;omega) hl hN hks hB4 hB5
 rw[hxs] at hseq
 have hlen:xs.length≤N:=by rw[← hxs];exact trs_len hl t hks
 have hN5:lookN xs=haveAt l t:=by rw[← hxs];exact lookN_at hks
 have hwf:∀ x ∈ xs,(Lit.int .u64 x.1).wf=true∧(Lit.int .u64 x.2.u).wf=true:=fun x hx=>by
  rw[← hxs] at hx
  obtain⟨u,hu,hx⟩:=List.mem_flatMap.1 hx
  obtain⟨v,hv,rfl⟩:=List.mem_map.1 hx
  exact⟨(haveAt_ok hl t).key u ((hks.mem u).1 hu),(((haveAt_ok hl t).ok u).may v hv).2⟩
 have hmb:MapF Tryz.prog 33 W5 W.heap.size 0 fun _=>none:=by
  refine(MapF.made W Tryz.prog 33).fr (W':=W5) (T:=N0) ?_ id
  have:Fr N0 (W.alloc (.map #[] 0)) W3:=by rw[← hW3];exact(((Fr.refl _ _).alloc _).alloc _).alloc _
  exact this.then0 hf35
 have hmb2:MapF Tryz.prog 33 W5 (W.heap.size+1) 0 fun _=>none:=by
  have h1:=MapF.made (W.alloc (.map #[] 0)) Tryz.prog 33
  rw[World.size_alloc] at h1
  refine h1.fr (W':=W5) (T:=N0) ?_ id
  have:Fr N0 ((W.alloc (.map #[] 0)).alloc (.map #[] 0)) W3:=by rw[← hW3];exact((Fr.refl _ _).alloc _).alloc _
  exact this.then0 hf35
 have hcx:W5.cell? ⟨W.heap.size+2,1,none⟩=some (.map (some W.heap.size))∧W5.cell? ⟨W.heap.size+2,2,none⟩=some (.map (some (W.heap.size+1))):=by
  have h1:=World.alloc_heap_new ((W.alloc (.map #[] 0)).alloc (.map #[] 0)) (.cells #[.int .u64 t,.map (some W.heap.size),.map (some (W.heap.size+1))] 168)
  simp only [World.size_alloc] at h1
  obtain⟨m,-,-⟩:=box_cells h1
  have hf:Fr N0 (((W.alloc (.map #[] 0)).alloc (.map #[] 0)).alloc (.cells #[.int .u64 t,.map (some W.heap.size),.map (some (W.heap.size+1))] 168)) W3:=by rw[← hW3];exact(Fr.refl _ _).alloc _
  exact⟨(hf.then0 hf35).cell id (m 1),(hf.then0 hf35).cell id (m 2)⟩
 have hc5:W5.cell? ⟨W.heap.size+3,0,none⟩=some (.pointer (some ⟨W.heap.size+2,0,none⟩)):=by
  have h1:=World.alloc_heap_new (((W.alloc (.map #[] 0)).alloc (.map #[] 0)).alloc (.cells #[.int .u64 t,.map (some W.heap.size),.map (some (W.heap.size+1))] 168)) (.cells #[.pointer (some ⟨W.heap.size+2,0,none⟩)] 156)
  simp only [World.size_alloc] at h1
  rw[hW3] at h1
  exact hf35.cell id (cell_of_one h1)
 have h0:ItI W.heap.size (W.heap.size+3) (W.heap.size+2) W.heap.size (W.heap.size+1) (fun k=>W.heap.size≤k∧k < W.heap.size+4) [] W5:=
  ⟨_,_,_,_,_,_,⟨hc5,hcx,hmb,OwnR.none W5 _ _,hmb2,OwnR.none W5 _ _,fun j h=>h.elim,fun j h=>h.elim,fun j h=>by
   rcases h with h | h | h | h | h | h
   ·omega
   ·omega
   ·omega
   ·omega
   ·exact h.elim
   ·exact h.elim,by omega⟩⟩
 have HSEQ:=hhd hseq;have H0:=hhd h0;have HWF:=hhd hwf;have HN5:=hhd hN5;have HF5:=hhd (hf3.then0 hf35);have HR:=hhd hR
 clear hseq h0 hwf hN5 hmb hmb2 hcx hc5 hB4 hB5 hf3 hf35 h hks hl
 have hmm:=@run_makeMap Tryz.prog
 have f1:Fence.wide.fn 34:=trivial
 refine(callsIn_wide (n:=8)).1 ?_
 refine callsIn_of_wp_marks Tryz.func83 rfl trivial ?_ rfl
 simp only [Tryz.ntmps83,List.size_toArray,List.length_cons,List.length_nil,Nat.reduceAdd,Nat.reduceSub,Array.replicate_succ,Array.replicate_zero,List.push_toArray,List.append_toArray,List.nil_append,List.cons_append]
 gi_wp2_with (gi_at_call 34;refine(callsIn_wide.2 (trips_any _ _ _)).mono ?_;rintro e w1 ⟨rfl,hw1⟩)
 obtain rfl:W5=w1:=hW5.symm.trans hw1
 rename_i Kx hKx
 refine(wpIn_wide (n:=8)).2 ?_
 refine wp_frA _ rfl ?_
 refine it_range W5 W.heap.size (W.heap.size+3) (W.heap.size+2) W.heap.size (W.heap.size+1) (W.heap.size+4) (W.heap.size+5) N l.s.pred t _ _ xs _ HSEQ.out (fun k hk=>⟨fun h=>?_,by omega⟩) (fun k hk=>?_) H0.out ⟨Nat.le_refl _,by omega⟩ hlen (by omega) HWF.out rfl rfl fun D S W6 hI hf6 hD hwD hSD=>?_
 ·rcases h with h | h | h
  ·have:=HR.out k h;omega
  ·omega
  ·omega
 ·rcases hk with h | h | h
  ·have:=HR.out k h;omega
  ·omega
  ·omega
 ·refine hKx _ _ ?_
  refine(wpIn_wide (n:=8)).2 ?_
  obtain⟨F,g,Rn,FB,gB,RB,hI⟩:=hI
  refine it_tail W6 (W.heap.size+3) (W.heap.size+2) D _ rfl hI.c5 fun tm htm=>?_
  refine⟨by simp,.inl ⟨_,_,rfl,run_takeDeferred hD,?_⟩⟩
  have hfd:Fr (fun k=>¬ S k) W6 (W6.putObj D (.deferred none)):=(Fr.refl (fun k=>¬ S k) W6).putObj (l:=D) (.inl hSD) _
  have hI2:=hI.fr hfd fun j hj hn=>hn hj
  refine⟨_,results_tmp rfl _ _ _,W.heap.size+2,W.heap.size,W.heap.size+1,?_,?_,?_⟩
  ·simp [Array.getD_eq_getD_getElem?,htm]
  ·exact⟨hI2.cx,by omega,⟨F,hI2.mapN.mono hlen,by have:=hI2.rowN.hrows val_len (by decide);rwa [HN5.out] at this⟩,⟨FB,hI2.mapB.mono hlen,by rw[hxs];exact hI2.rowB.hrows ins4_len (by decide)⟩⟩
  ·exact((HF5.out.trans hf6 fun k hk=>.inr hk.1).putObj (l:=D) (.inr (by omega)) _)
end
section
open Go.RowKit Go.Shelf Go.Maps Go.Sort
attribute [local go_sem] Oper.semAt_some
attribute [local irreducible] wpQuiet
def PredV(w:World)(gf:FuncId)(lb:Array Value)(xs:List Val)(p:Val→Bool):Prop:=
 ∀ x ∈ xs,∀ W,Fr N0 w W→Calls Tryz.prog gf (#[.agg x.enc.toArray] ++ lb) W fun e w'=>e = .returned (.bool (p x))∧Fr N0 W w'
theorem idxFV_any(w:World)(b:Nat)(v:Value)(xs:List Val)(h:RowsK Val.enc 5 w b v xs)(hl:xs.length≤9223372036854775807)(gf:FuncId)(lb:Array Value)(p:Val→Bool)(hp:PredV w gf lb xs p)
  (eg:∀ args w,(callFunc gf args).run Tryz.prog w = .ok (.enter gf args) w) :
  Calls Tryz.prog 248 #[v,.func (.func gf) #[] lb] w fun e w'=>e = .returned (.int .i64 (idxW xs p))∧Fr N0 w w':=by
 obtain⟨a,off,cap,rfl,h1,h2,h3,h4,h5⟩:=h
 have HC:=hhd h5;have HP:=hhd hp;clear h5 hp h4
 go_enter Tryz.func248,Tryz.ntmps248
 go_wp2
 go_loopw [8] (fun i wr=>∃ k:Nat,k≤xs.length∧i = .int .i64 k∧Hid (∀ j (h:j < xs.length),j < k→p xs[j]=false)∧Fr N0 w wr) (fun i _=>xs.length - (intOf i).toNat)
 case atStart=>exact⟨0,Nat.zero_le _,rfl,fun j h hj=>by omega,Fr.refl _ _⟩
 case round=>
  obtain⟨k,hk,rfl,hn,hfr⟩:=hrel
  by_cases hlt:k < xs.length
  ·obtain rfl:=h3 (by omega)
   have e5:=HC.out k hlt
   have c0:=e5 0 (by decide);have c1:=e5 1 (by decide);have c2:=e5 2 (by decide);have c3:=e5 3 (by decide);have c4:=e5 4 (by decide)
   rw[Nat.add_zero] at c0
   have hcall:=HP.out xs[k] (List.getElem_mem hlt)
   have hnx:p xs[k]=false→∀ j (h:j < xs.length),j < k+1→p xs[j]=false:=fun he j h hj=>by
    rcases Nat.lt_or_ge j k with h' | h'
    ·exact hn.out j h h'
    ·have:j=k:=by omega
     subst this;exact he
   have hfd:p xs[k]=true→idxW xs p=k:=fun he=>idxW_at hlt hn.out he
   obtain⟨x,hx⟩:∃ x,xs[k]=x:=⟨_,rfl⟩
   simp only [hx] at c0 c1 c2 c3 c4 hcall hnx hfd
   obtain⟨q,hq⟩:∃ q,p x=q:=⟨_,rfl⟩
   rw[hq] at hcall hnx hfd
   obtain⟨vk,vb,vn,vs,vu⟩:=x
   unfold Val.enc at hcall
   simp only [Val.enc,List.getElem?_cons_zero,List.getElem?_cons_succ] at c0 c1 c2 c3 c4 hcall
   replace c0:=hfr.cell id c0;replace c1:=hfr.cell id c1;replace c2:=hfr.cell id c2;replace c3:=hfr.cell id c3;replace c4:=hfr.cell id c4
   have hki:(k:Int) < (xs.length:Int):=by omega
   have HX:=hhd hcall;have HNX:=hhd hnx;have HFD:=hhd hfd
   clear hcall hx hq hnx hfd hn
   cases q with
   | true=>
    have hF:=hhd (HFD.out rfl)
    clear HFD HNX
    go_wp2_with (refine(HX.out _ hfr).mono ?_;rintro e w1 ⟨rfl,hf1⟩)
    go_ret
    exact⟨ret_int hF.out.symm,hfr.then0 hf1⟩
   | false=>
    have hF:=hhd (HNX.out rfl)
    clear HFD HNX
    go_wp2_with (refine(HX.out _ hfr).mono ?_;rintro e w1 ⟨rfl,hf1⟩)
    go_roundw
    case rel=>exact⟨k+1,by omega,by go_num,hF.out,hfr.then0 hf1⟩
    case measure=>simp [intOf];omega
  ·obtain rfl:k=xs.length:=by omega
   have hF:=hhd (idxW_none hn.out)
   clear hn
   go_wp2
   go_ret
   exact⟨ret_int hF.out.symm,hfr⟩
theorem contFV_any(w:World)(b:Nat)(v:Value)(xs:List Val)(h:RowsK Val.enc 5 w b v xs)(hl:xs.length≤9223372036854775807)(gf:FuncId)(lb:Array Value)(p:Val→Bool)(hp:PredV w gf lb xs p)
  (eg:∀ args w,(callFunc gf args).run Tryz.prog w = .ok (.enter gf args) w) :
  Calls Tryz.prog 213 #[v,.func (.func gf) #[] lb] w fun e w'=>e = .returned (.bool (xs.any p))∧Fr N0 w w':=by
 have hc:=idxFV_any w b v xs h hl gf lb p hp eg
 have HC:=hhd hc
 clear hc hp h
 go_enter Tryz.func213,Tryz.ntmps213
 go_wp2_with (go_at_call 248;go_loud (refine HC.out.mono ?_);rintro e w1 ⟨rfl,hf1⟩)
 go_ret
 exact⟨ret_bool idxW_ge,hf1⟩
end
section
open Go.RowKit Go.Shelf Go.Sort Go.Maps
theorem sort4_any(w:World)(base:Nat)(v:Value)(xs:List Int)(h:w.ownsRow base 33 1 v xs.length (xs.map (Value.int .u64)))(hl:xs.length≤17592186044416) :
  Calls Tryz.prog 84 #[v] w fun e w'=>e = .returned (.tuple #[])∧w'.ownsRow base 33 1 v xs.length ((xs.mergeSort fun x y=>decide (x≤y)).map (Value.int .u64))∧Fr (fun k=>v.ownBlock=some k) w w':=by
 have h':=h
 rcases h.2 with⟨rfl,h0⟩ | ⟨g,cap,cur,rfl,hb,hg,hnc,hcm,hcs,htake⟩
 ·obtain rfl:xs = []:=List.eq_nil_of_length_eq_zero h0
  refine(U.Sort_int_nil none 0 w).mono ?_
  rintro e w' ⟨rfl,rfl⟩
  exact⟨rfl,by simpa using h',Fr.refl _ _⟩
 ·have hH:=holds_of_block_u6 (ss:=xs) hg (by simpa using htake)
  refine(U.slices_Sort_int g 0 cap xs w hH (lt_of_block hg) (by omega)).mono ?_
  rintro e w' ⟨rfl,n,os,rfl⟩
  exact⟨rfl,ownsRow_sorted_u6 (n:=n) (os:=os) (base:=base) (ts:=xs.mergeSort fun x y=>decide (x≤y)) (ss:=xs) (by simp) hb hg hnc hcm (by simpa using hcs),(Fr.refl _ _).grown (grownBy_sorted_u6 _) fun k hk=>.inl (by simpa [Value.ownBlock] using hk)⟩
end
section
open Go.RowKit Go.Shelf Go.Maps Go.Sort
attribute [local go_sem] Oper.semAt_some
attribute [local irreducible] wpQuiet
def Picked(F:Lit→Option Value)(left:Lit→Bool)(p:Int→Bool)(os:List Int):Prop:=os.Nodup∧∀ u,u ∈ os↔((F (litU u)).isSome=true∧left (litU u)=false∧p u=true)
theorem picked_start(F:Lit→Option Value)(p:Int→Bool):Picked F (fun kl=>(F kl).isSome) p []:=⟨List.nodup_nil,fun u=>⟨fun h=>(by cases h),fun h=>(by have h1:=h.1;have h2:(F (litU u)).isSome=false:=h.2.1;rw[h1] at h2;cases h2)⟩⟩
theorem picked_yes{F:Lit→Option Value}{left:Lit→Bool}{p:Int→Bool}{os:List Int}{x:Int}(h:Picked F left p os)(hl:left (litU x)=true)(hF:(F (litU x)).isSome=true)(hp:p x=true):Picked F (fun z=>left z && !z.sameKey (litU x)) p (os ++ [x]):=by
 have hx:x ∉ os:=fun hx=>by have:=((h.2 x).1 hx).2.1;rw[hl] at this;cases this
 refine⟨List.nodup_append.2 ⟨h.1,by simp,fun a ha b hb e=>by simp at hb;subst hb;exact hx (e ▸ ha)⟩,fun u=>?_⟩
 rw[List.mem_append,h.2]
 by_cases e:u=x
 ·subst e
  simp [hF,hp,Lit.sameKey]
 ·have hs:(litU u).sameKey (litU x)=false:=sameKey_ne (fun h=>e (litU_inj h))
  simp [hs,e]
theorem picked_no{F:Lit→Option Value}{left:Lit→Bool}{p:Int→Bool}{os:List Int}{x:Int}(h:Picked F left p os)(hl:left (litU x)=true)(hp:p x=false):Picked F (fun z=>left z && !z.sameKey (litU x)) p os:=by
 refine⟨h.1,fun u=>?_⟩
 rw[h.2]
 by_cases e:u=x
 ·subst e
  simp [hl,hp]
 ·have hs:(litU u).sameKey (litU x)=false:=sameKey_ne (fun h=>e (litU_inj h))
  simp [hs]
def NewInts(W:World)(P:Int→Prop)(e:Ending)(w':World):Prop:=∃ v xs,e = .returned v∧w'.ownsRow W.heap.size 33 1 v xs.length (xs.map (Value.int .u64))∧RisesBy id xs∧(∀ u,u ∈ xs↔P u)∧Fr N0 W w'
def slv(c:Option Addr × Nat × Nat):Value:=.slice c.1 c.2.1 c.2.2
theorem HRows.slv{α:Type}{enc:α→List Value}{k:Nat}{W:World}{lo b:Nat}{H:Int→List α}{F:Lit→Option Value}(h:HRows enc k W lo b H F):∀ kl v,F kl=some v→∃ c,v=slv c:=fun kl v hv=>by
 obtain⟨u,-,-,g,-,-,-,a,off,cap,rfl,-⟩:=h.1 kl v hv
 exact⟨(a,_,cap),rfl⟩
theorem where_any(W:World)(lo px bn bb N:Nat)(H:Int→List Val)(B:Int→List Int)(h:LookAt W lo px bn bb N H B)(hH:HOk H N)(hN:N≤9000000000)(gf:FuncId)(lb:Array Value)(p:Val→Bool)(hp:∀ u,PredV W gf lb (H u) p)
  (eg:∀ args w,(callFunc gf args).run Tryz.prog w = .ok (.enter gf args) w) :
  Calls Tryz.prog 159 #[.pointer (some ⟨px,0,none⟩),.func (.func gf) #[] lb] W (NewInts W fun u=>(H u).any p=true):=by
 obtain⟨F,hm,hr⟩:=h.nodes
 obtain⟨i0,hi,hz0,hz1,hz2⟩:=info_parts ins4_info
 have cx:=h.cx.1
 have hbl:=hm.lt
 have hat:∀ kl v,F kl=some v→∃ u,kl=litU u∧∃ g,g < W.heap.size∧RowsK Val.enc 5 W g v (H u):=fun kl v hv=>by
  obtain⟨u,e,h0,g,h1,h2,h3,h4⟩:=hr.1 kl v hv
  exact⟨u,e,g,h3,h4⟩
 have hcon:=fun w' (hf:Fr N0 W w') u g v (hr:RowsK Val.enc 5 w' g v (H u))=>contFV_any w' g v (H u) hr (by have:=hH.len u;omega) gf lb p (fun x hx W' hW'=>hp u x hx W' (hf.then0 hW')) eg
 have hsl:=hr.slv
 have hfin:∀ os (left:Lit→Bool),Picked F left (fun u=>(H u).any p) os→(∀ kl,left kl=false)→∀ u,u ∈ os↔(H u).any p=true:=fun os left hpk hl u=>by
  rw[hpk.2]
  constructor
  ·exact fun h=>h.2.2
  ·intro h
   refine⟨hr.2 u fun e=>?_,hl _,h⟩
   rw[e] at h;simp at h
 have HAT:=hhd hat;have HCON:=hhd hcon;have HSL:=hhd hsl;have HFIN:=hhd hfin;have HR:=hhd hr
 clear hat hcon hsl hfin hr h hH hp
 go_enter Tryz.func159,Tryz.ntmps159
 go_wp2_with (at_range;go_loud (refine wpList_rangeF2 _ rfl _ 165 rfl 33 91 lawU Tryz.underlying165 bn N F rfl hm ?_);intro w0 cnt0 hc0 hrg0 hf0 hs0)
 go_frame
 go_loopw [5] (fun ov wr=>∃ (left:Lit→Bool) (cnt k:Nat) (os:List Int),Hid (MapR Tryz.prog 33 wr bn W.heap.size N F left cnt)∧Hid (∀ kl,left kl=true→(F kl).isSome=true)∧Hid (Picked F left (fun u=>(H u).any p) os)∧Hid (os.length=k∧k+cnt≤N)∧Hid (wr.ownsRow (W.heap.size+1) 33 1 ov k (os.map (Value.int .u64)))∧Hid (Fr N0 W wr)∧W.heap.size+1≤wr.heap.size) (fun _ wr=>wr.rangeLeft bn W.heap.size)
 case atStart=>exact⟨_,cnt0,0,[],hrg0,fun kl h=>h,picked_start F _,⟨rfl,by omega⟩,World.ownsRow_nil _ _ _ _,hf0,by omega⟩
 case round=>
  obtain⟨left,cnt,k,os,hrg,hl,hpk,hos,hrow,hfr,hsz⟩:=hrel
  obtain⟨oa,oc,rfl⟩:=row_form hrow.out
  go_wp2_with (at_next;go_loud (refine wpList_nextF _ rfl _ rfl 33 lawU (fun x:Int=>Value.int .u64 x) slv (fun _ _=>invU) bn W.heap.size N F left cnt HSL.out hl.out rfl hrg.out ?_ ?_))
  ·intro hc0' hl0'
   have hso:=sort4_any wr (W.heap.size+1) (.slice oa k oc) os (by rw[hos.out.1];exact hrow.out) (by have:=hos.out;omega)
   have hmem:=HFIN.out os left hpk.out hl0'
   have HSO:=hhd hso;have HMEM:=hhd hmem
   have hlo:=fun j hj=>(ownsRow_lt hrow.out j hj).1
   have HLO:=hhd hlo
   clear hso hmem hlo hrg
   go_wp2_with (go_at_call 84;refine HSO.out.mono ?_;rintro e w2 ⟨rfl,hrow2,hf2⟩)
   go_ret
   have hl2:(os.mergeSort fun x y=>decide (x≤y)).length=os.length:=(List.mergeSort_perm os _).length_eq
   refine⟨_,_,rfl,ownsRow_base (by rw[hl2];exact hrow2) (by omega),rises_mergeSort hpk.out.1,fun u=>?_,hfr.out.trans hf2 fun j hj=>.inr (by have:=HLO.out j hj;omega)⟩
   rw[(List.mergeSort_perm os _).mem_iff]
   exact HMEM.out u
  ·intro x a1 n1 c1 kl w' cnt' hkey hlk hF hrg' hlt hfr' hsz' hen
   obtain⟨x',ex,rfl,hwf⟩:=Maps.keyOf_int_inv Tryz.underlying33 hkey
   injection ex with ex1 ex2
   subst ex2
   have hfw:=fr_range hfr.out hfr' (Nat.le_refl _)
   obtain⟨u,eu,g,hg,hrx⟩:=HAT.out _ _ hF
   obtain rfl:=litU_inj eu
   have hcall:=HCON.out w' hfw x g (slv (a1,n1,c1)) (rowsK_frT (enc:=Val.enc) (n:=5) val_len hrx hfw fun _=>id)
   have hrow':w'.ownsRow (W.heap.size+1) 33 1 (.slice oa k oc) k (os.map (Value.int .u64)):=ownsRow_fr hrow.out hfr' fun j hj e=>by have:=(ownsRow_lt hrow.out j hj).1;omega
   have hFs:(F (litU x)).isSome=true:=by rw[show litU x=Lit.int .u64 x from rfl,hF];rfl
   obtain⟨q,hq⟩:∃ q,(H x).any p=q:=⟨_,rfl⟩
   rw[hq] at hcall
   have hz':=hfr'.size
   have hok:=hos.out
   have HC:=hhd hcall;have HRW:=hhd hrow';have HFW:=hhd hfw;have HRG:=hhd hrg';have HLT:=hhd hlt
   cases q with
   | true=>
    have hpk2:=picked_yes hpk.out hlk hFs hq
    have HPK:=hhd hpk2
    clear hcall hrow' hfw hrg' hlt hpk2 hkey hlk hF hFs hq hrx hwf hrow hpk hfr'
    go_wp2_with (first
     |(go_at_call 213;refine HC.out.mono ?_;rintro e w2 ⟨rfl,hf2⟩;have hrow2:=HRW.out.fr0 hf2;have hzz2:=hf2.size)
     |(at_builtin;go_loud (refine wpList_append_lies _ rfl _ _ 35 rfl (W.heap.size+1) 33 i0 (.int .u64 0) 1 8 Tryz.underlying35 hi hz0 hz1 hz2 rfl (by decide) (.slice oa k oc) (k) _ rfl (hrow2.alloc _) ⟨w2.heap.size,0,none⟩ 1 1 [.int .u64 x] rfl rfl (World.news_of_block (cs:=#[.int .u64 x]) (t:=33) (fr:=(0,0)) (heap_alloc_new w2 _)) (by simp [Value.oneCell']) (by omega) (by unfold maxLen;omega) (by omega) (by simp;omega) (w2.heap.size+1) (by simp) ?_);intro g1 cap1 w3 hown3 hgrow3 hfresh3 hlt3))
    go_roundw
    case rel=>
     have hfa:Fr (fun j=>(Value.slice oa k oc).ownBlock=some j) _ w3:=(Fr.refl _ _).grown hgrow3 fun j e=>.inl e
     refine⟨_,cnt',k+1,os ++ [x],?_,left_next hl.out,HPK.out,⟨by simp [hok.1],by have:=HLT.out;have:=hok.2;omega⟩,hhd (by simpa using hown3),?_,by have:=hfa.size;simp at this;omega⟩
     ·exact(HRG.out.fr (hf2.alloc _) id id).fr hfa (fun e=>by have:=(ownsRow_lt hrow2 _ e).1;omega) (fun e=>by have:=(ownsRow_lt hrow2 _ e).1;omega)
     ·exact((HFW.out.then0 hf2).alloc _).trans hfa fun j hj=>.inr (by have:=(ownsRow_lt hrow2 _ hj).1;omega)
    case measure=>
     have hfa:Fr (fun j=>(Value.slice oa k oc).ownBlock=some j) _ w3:=(Fr.refl _ _).grown hgrow3 fun j e=>.inl e
     rw[((HRG.out.fr (hf2.alloc _) id id).fr hfa (fun e=>by have:=(ownsRow_lt hrow2 _ e).1;omega) (fun e=>by have:=(ownsRow_lt hrow2 _ e).1;omega)).left_eq,hrg.out.left_eq];exact HLT.out
   | false=>
    have hpk2:=picked_no hpk.out hlk hq
    have HPK:=hhd hpk2
    clear hcall hrow' hfw hrg' hlt hpk2 hkey hlk hF hFs hq hrx hwf hrow hpk hfr'
    go_wp2_with (go_at_call 213;refine HC.out.mono ?_;rintro e w2 ⟨rfl,hf2⟩)
    go_roundw
    case rel=>exact⟨_,cnt',k,os,HRG.out.fr hf2 id id,left_next hl.out,HPK.out,⟨hok.1,by have:=HLT.out;have:=hok.2;omega⟩,HRW.out.fr0 hf2,HFW.out.then0 hf2,by have:=hf2.size;omega⟩
    case measure=>rw[(HRG.out.fr hf2 id id).left_eq,hrg.out.left_eq];exact HLT.out
end
end Go.Proofs.YtefepfiijoafbaaGreat
