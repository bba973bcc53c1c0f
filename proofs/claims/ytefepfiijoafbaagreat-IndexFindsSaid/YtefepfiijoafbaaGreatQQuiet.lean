/- LstP Lists ECount EEdges Quiet -/
import Derived.Deep.QuietTactic
import Derived.Test.YtefepfiijoafbaaGreatQPtE
import Derived.Test.YtefepfiijoafbaaGreatQXMark
import Derived.Test.YtefepfiijoafbaaGreatQR3SortT
import Derived.Test.YtefepfiijoafbaaGreatQPMk3
import Derived.Test.YtefepfiijoafbaaGreatQXAdd
import Derived.Test.YtefepfiijoafbaaGreatQIEdges
import Derived.Test.YtefepfiijoafbaaGreatQXTrip
import Derived.Test.YtefepfiijoafbaaGreatQBS
set_option linter.unusedVariables false
set_option linter.unusedSimpArgs false
set_option maxRecDepth 100000
set_option maxHeartbeats 8000000
namespace Go.Proofs.YtefepfiijoafbaaGreat
section
open Go.RowKit Go.Shelf
structure LOk(s:Sch)(l:PL)(N:Nat):Prop where
 sch:l.s=s
 may:schMay s=0
 at_:l.AtOk N
 rises:RisesBy Cm.time l.commits
 vals:∀ x ∈ wsOf l.commits,valMay x.val=true∧x.val.k=s.ty∧x.val.ok
theorem Built.lok{s:Sch}{l:PL}{N:Nat}(h:Built s l N):LOk s l (256 * N) where
 sch:=h.sch
 may:=h.sch ▸ h.fine.may
 at_:=h.at
 rises:=h.fine.ok.commits
 vals:=fun x hx=>by
  obtain⟨c,hc,hx⟩:=wsOf_mem hx
  obtain⟨h1,h2⟩:=h.fits c hc x hx
  exact⟨trMay_val (fitE_zero h1).1,(fitE_zero h1).2.2,h2.2⟩
theorem mem_trs{H:Int→List Val}{ks:List Int}{x:Int × Val}(hx:x ∈ trsOf H ks):x.1 ∈ ks∧x.2 ∈ H x.1:=by
 unfold trsOf at hx
 obtain⟨u,hu,hx⟩:=List.mem_flatMap.1 hx
 obtain⟨v,hv,rfl⟩:=List.mem_map.1 hx
 exact⟨hu,hv⟩
theorem wsOf_later(cs:List Cm)(t:Int):(wsOf (cs.filter fun c=>decide (t < c.time))).length≤(wsOf cs).length:=by
 induction cs with
 | nil=>simp [wsOf]
 | cons c cs ih=>
  unfold wsOf at ih ⊢
  rw[List.filter_cons]
  split
  ·rw[List.flatMap_cons,List.flatMap_cons,List.length_append,List.length_append];omega
  ·rw[List.flatMap_cons,List.length_append];omega
section
variable {s:Sch} {l:PL} {N:Nat} (h:LOk s l N) (t:Int)
include h
theorem LOk.mono{M:Nat}(hM:N≤M):LOk s l M:=⟨h.sch,h.may,⟨h.at_.pred,h.at_.ok,Nat.le_trans h.at_.len hM,Nat.le_trans h.at_.commits hM⟩,h.rises,h.vals⟩
theorem LOk.val{u:Int}{v:Val}(hv:v ∈ haveAt l t u):valMay v=true∧v.k=s.ty∧v.ok:=by
 unfold haveAt at hv
 split at hv
 ·cases hv
 ·obtain⟨x,hx,rfl⟩:=haveOf_val _ _ hv
  refine h.vals x ?_
  obtain⟨c,hc,hx⟩:=wsOf_mem hx
  unfold wsOf
  exact List.mem_flatMap.2 ⟨c,(List.takeWhile_sublist _).subset hc,hx⟩
theorem LOk.mark{ks:List Int}(hks:NodesOf (haveAt l t) ks):LOk s (markPL l t (trsOf (haveAt l t) ks)) (2 * N):=by
 have hlen:=trsOf_len h.at_ t hks.rises
 have hin:∀ x ∈ wsOf (markPL l t (trsOf (haveAt l t) ks)).commits,(∃ y ∈ trsOf (haveAt l t) ks,x=wrT l.s.pred y)∨x ∈ wsOf l.commits:=fun x hx=>by
  obtain⟨c,hc,hx⟩:=wsOf_mem hx
  unfold markPL at hc
  rcases List.mem_append.1 hc with hc | hc
  ·split at hc
   ·cases hc
   ·obtain rfl:=List.mem_singleton.1 hc
    obtain⟨y,hy,rfl⟩:=List.mem_map.1 hx
    exact .inl ⟨y,hy,rfl⟩
  ·refine .inr ?_
   unfold wsOf
   exact List.mem_flatMap.2 ⟨c,(List.mem_filter.1 hc).1,hx⟩
 have hv:∀ y ∈ trsOf (haveAt l t) ks,(valMay y.2=true∧y.2.k=s.ty∧y.2.ok)∧(Lit.int .u64 y.1).wf=true∧(Lit.int .u64 y.2.u).wf=true:=fun y hy=>by
  obtain⟨h1,h2⟩:=mem_trs hy
  have ho:=haveAt_ok h.at_ t
  exact⟨h.val t h2,ho.key _ ((hks.mem _).1 h1),((ho.ok y.1).may _ h2).2⟩
 refine⟨h.sch,h.may,⟨h.at_.pred,fun x hx=>?_,?_,?_⟩,?_,fun x hx=>?_⟩
 ·rcases hin x hx with⟨y,hy,rfl⟩ | hx
  ·obtain⟨h1,h2,h3⟩:=hv y hy
   exact⟨h2,h1.1,h3⟩
  ·exact h.at_.ok x hx
 ·show(wsOf ((if _ then _ else _) ++ _)).length≤_
  unfold wsOf
  rw[List.flatMap_append,List.length_append]
  have h1:=wsOf_later l.commits t
  have h2:=h.at_.len
  unfold wsOf at h1 h2
  split
  ·rw[List.flatMap_nil,List.length_nil];omega
  ·rw[List.flatMap_cons,List.flatMap_nil,List.append_nil,List.length_map];omega
 ·show((if _ then _ else _) ++ List.filter _ _:List Cm).length≤_
  rw[List.length_append]
  have h1:(l.commits.filter fun c=>decide (t < c.time)).length≤l.commits.length:=List.length_filter_le _ _
  have h2:=h.at_.commits
  split
  ·simp;omega
  ·rename_i hne
   have:0 < (trsOf (haveAt l t) ks).length:=List.length_pos_iff.2 hne
   simp;omega
 ·show RisesBy Cm.time ((if _ then _ else _) ++ _)
  have hf:RisesBy Cm.time (l.commits.filter fun c=>decide (t < c.time)):=List.Pairwise.sublist List.filter_sublist h.rises
  split
  ·exact hf
  ·refine List.pairwise_cons.2 ⟨fun c hc=>?_,hf⟩
   have:=(List.mem_filter.1 hc).2
   simpa using this
 ·rcases hin x hx with⟨y,hy,rfl⟩ | hx
  ·exact(hv y hy).1
  ·exact h.vals x hx
end
end
section
open Go.RowKit Go.Shelf Go.Maps
attribute [local go_sem] Oper.semAt_some
attribute [local irreducible] wpQuiet
structure LsS(w:World)(p1 p2:Nat)(R1 R2:Nat→Prop)(m1 m2:PL)(W:World):Prop where
 ll:Lxl w W R1 p1 m1
 xx:IsXL W R2 p2 m2
 xb:∀ k,R2 k→w.heap.size≤k∧k < W.heap.size
 ap:∀ k,R1 k→¬ R2 k
section
variable {w W w':World} {p1 p2:Nat} {R1 R2:Nat→Prop} {m1 m2:PL} (h:LsS w p1 p2 R1 R2 m1 m2 W)
include h
theorem LsS.fr(hf:Fr N0 W w'):LsS w p1 p2 R1 R2 m1 m2 w':=
 ⟨h.ll.fr hf,h.xx.fr hf fun _ _=>id,fun k hk=>⟨(h.xb k hk).1,Nat.lt_of_lt_of_le (h.xb k hk).2 hf.size⟩,h.ap⟩
theorem LsS.one{R:Nat→Prop}{m:PL}(hl:IsPL w' R p1 m)(hR:∀ k,R k→R1 k∨W.heap.size≤k)(hf:Fr R1 W w'):∃ R',LsS w p1 p2 R' R2 m m2 w':=by
 have hw:=h.ll.2.2.size
 refine⟨fun k=>R k∧k < w'.heap.size,⟨ispl_bound hl,fun k hk=>⟨?_,hk.2⟩,h.ll.2.2.trans hf fun k hk=>.inr (h.ll.2.1 k hk).1⟩,h.xx.fr hf fun k h2 h1=>h.ap k h1 h2,fun k hk=>⟨(h.xb k hk).1,Nat.lt_of_lt_of_le (h.xb k hk).2 hf.size⟩,fun k hk h2=>?_⟩
 ·rcases hR k hk.1 with h1 | h1
  ·exact(h.ll.2.1 k h1).1
  ·omega
 ·rcases hR k hk.1 with h1 | h1
  ·exact h.ap k h1 h2
  ·have:=(h.xb k h2).2;omega
theorem LsS.two{m:PL}(hl:IsXL w' (fun k=>R2 k∨W.heap.size≤k) p2 m)(hf:Fr (fun k=>k=p2) W w'):∃ R',LsS w p1 p2 R1 R' m1 m w':=by
 have hw:=h.ll.2.2.size
 have hp2:R2 p2:=by obtain⟨_,_,_,_,h2,_⟩:=h.xx;exact h2
 refine⟨fun k=>(R2 k∨W.heap.size≤k)∧k < w'.heap.size,h.ll.frT hf (fun k h1 e=>h.ap k h1 (e ▸ hp2)) (fun k e=>e ▸ (h.xb _ hp2).1),isxl_bound hl,fun k hk=>⟨?_,hk.2⟩,fun k h1 hk=>?_⟩
 ·rcases hk.1 with h2 | h2
  ·exact(h.xb k h2).1
  ·omega
 ·rcases hk.1 with h2 | h2
  ·exact h.ap k h1 h2
  ·have:=(h.ll.2.1 k h1).2;omega
end
section
variable {w W:World} {p1 p2:Nat} {R1 R2:Nat→Prop} {m1 m2:PL} {s:Sch} {n:Nat} (h:LsS w p1 p2 R1 R2 m1 m2 W)
include h
theorem ls_add1(hb:Built s m1 n)(hn:n≤1000000000){c:CmV}{xs:List Wr}{b:Nat}(h1:Wrs w b (.slice c.a c.n c.c) xs)(h2:∀ y ∈ xs,y.ok) :
  Calls Tryz.prog 31 #[vP p1,.agg c.enc.toArray] W fun e w'=>(∃ a E:Int,e = .returned (.tuple #[.int .i64 a,.int .i64 E]))∧∃ R',LsS w p1 p2 R' R2 (addPL m1 ⟨c.time,xs⟩).1 m2 w':=by
 refine(add_all W R1 p1 s.pred m1 c xs b n h.ll.1 hb.fine hn (h1.fr0 h.ll.2.2) (fun y hy=>(h2 y hy).wf) fun h0 hr=>?_).mono fun e w' hp=>?_
 ·obtain⟨a,off,cap,-,-,-,-,-,g⟩:=h1
  have hbw:b < w.heap.size:=lt_of_cell (p:=⟨b,off+0 * 8+0,none⟩) (g 0 h0 0 (by decide))
  have:=(h.ll.2.1 b hr).1
  omega
 ·obtain⟨⟨a,he⟩,R',g1,g2,g3⟩:=hp
  exact⟨⟨a,_,he⟩,h.one g1 g2 g3⟩
theorem ls_add2(hb:Built s m2 n)(hn:n≤1000000000){c:CmV}{xs:List Wr}{b:Nat}(h1:Wrs w b (.slice c.a c.n c.c) xs) :
  Calls Tryz.prog 78 #[vP p2,.agg c.enc.toArray] W fun e w'=>(∃ a E:Int,e = .returned (.tuple #[.int .i64 a,.int .i64 E]))∧∃ R',LsS w p1 p2 R1 R' m1 (addPL m2 ⟨c.time,xs⟩).1 w':=by
 refine(r18Add_any W R2 p2 s.pred m2 c xs b n h.xx hb.fine hn (h1.fr0 h.ll.2.2)).mono fun e w' hp=>?_
 obtain⟨⟨a,he⟩,g1,g3⟩:=hp
 exact⟨⟨a,_,he⟩,h.two g1 g3⟩
theorem ls_mark1{N:Nat}(hb:LOk s m1 N)(hN:N≤900000000)(t:Int)(ht:¬ t < m1.marked)(ks:List Int)(hks:NodesOf (haveAt m1 t) ks) :
  Calls Tryz.prog 79 #[vP p1,.int .u64 t] W fun e w'=>e = .returned (.int .i64 0)∧∃ R',LsS w p1 p2 R' R2 (markPL m1 t (trsOf (haveAt m1 t) ks)) m2 w':=by
 refine(pMark_any W R1 p1 m1 N h.ll.1 (fun k hk=>(h.ll.2.1 k hk).2) hb.at_ hN t ht ks hks).mono fun e w' hp=>?_
 obtain⟨he,R',g1,g2,g3⟩:=hp
 exact⟨he,h.one g1 g2 g3⟩
theorem ls_mark2{N:Nat}(hb:LOk s m2 N)(hN:N≤900000000)(t:Int)(ht:¬ t < m2.marked)(ks:List Int)(hks:NodesOf (haveAt m2 t) ks) :
  Calls Tryz.prog 80 #[vP p2,.int .u64 t] W fun e w'=>e = .returned (.int .i64 0)∧∃ R',LsS w p1 p2 R1 R' m1 (markPL m2 t (trsOf (haveAt m2 t) ks)) w':=by
 refine(r18Mark_any W R2 p2 m2 N h.xx hb.at_ hN hb.rises t ht ks hks).mono fun e w' hp=>?_
 obtain⟨he,g1,g3⟩:=hp
 exact⟨he,h.two g1 g3⟩
end
def LsPost(w:World)(s:Sch)(N:Nat)(e:Ending)(w':World):Prop:=
 (schMay s≠0∧e = .returned (.tuple #[.pointer none,.pointer none])∧Fr N0 w w') ∨
 ∃ p1 p2 R1 R2 m,e = .returned (.tuple #[vP p1,vP p2])∧LsS w p1 p2 R1 R2 m m w'∧LOk s m N
theorem lxLists_any(w:World)(s:Sch)(b:Nat)(v:Value)(cs:List CmV)(hcs:Cms w b v cs)(hn:cs.length≤1500000)(t:Int)(ht:0≤t) :
  Calls Tryz.prog 25 #[.agg s.enc.toArray,v,.int .u64 t] w (LsPost w s (512 * cs.length)):=by
 obtain⟨⟨a,off,cap,rfl,r1,r2,r3,-,r5⟩,hG⟩:=hcs
 obtain⟨L,hL⟩:∃ L,cs.length=L:=⟨_,rfl⟩
 have hnew1:=fun W=>pNew_any W s
 have hnew2:=fun W=>r18New_any W s
 obtain⟨Pst,hPst⟩:∃ Pst,LsPost w s (512 * cs.length)=Pst:=⟨_,rfl⟩
 have hno:∀ w',schMay s≠0→Fr N0 w w'→Pst (.returned (.tuple #[.pointer none,.pointer none])) w':=fun w' h0 hf=>by
  rw[← hPst];exact .inl ⟨h0,rfl,hf⟩
 have hyes:∀ w' p1 p2 R1 R2 m N,LsS w p1 p2 R1 R2 m m w'→LOk s m N→N≤512 * L→Pst (.returned (.tuple #[vP p1,vP p2])) w':=fun w' p1 p2 R1 R2 m N h1 h2 h3=>by
  rw[← hPst];exact .inr ⟨p1,p2,R1,R2,m,rfl,h1,h2.mono (by omega)⟩
 rw[hPst]
 obtain⟨M,hM⟩:∃ M,schMay s=M:=⟨_,rfl⟩
 have HNO:=hhd hno;have HYES:=hhd hyes;have HN1:=hhd hnew1;have HN2:=hhd hnew2;have H5:=hhd r5;have HG:=hhd hG;have HL:=hhd hL;have HM:=hhd hM
 rw[hM] at HNO
 simp only [hM] at HN1 HN2
 rw[hL] at r1 r3 hn
 simp only [hL]
 have hb0:0 < L→b < w.heap.size:=fun h=>lt_of_cell (p:=⟨b,off+0 * 2+0,none⟩) (H5.out 0 (by rw[HL.out];exact h) 0 (by decide))
 have HBW:=hhd hb0
 clear hPst hno hyes hnew1 hnew2 r5 hG hL hM hb0
 have hf0:Fr N0 w (w.alloc (.cells s.enc.toArray 32)):=(Fr.refl _ _).alloc _
 have hb0:(w.alloc (.cells s.enc.toArray 32)).heap[w.heap.size]?=some (.cells s.enc.toArray 32 (0,0)):=World.alloc_heap_new w _
 obtain⟨sc,hsc⟩:∃ sc,sc=s:=⟨_,rfl⟩
 have HBU:=hhd (fun h0:schMay s=0=>(Built.new h0:Built s { s:=s } 0))
 rw[HM.out] at HBU
 have HSC:=hhd hsc
 rw[← hsc] at HBU HYES
 obtain⟨sp,st,sl,se,sm,so,sr,sn⟩:=s
 have HF0:=hhd hf0;have HB0:=hhd hb0
 simp only [Sch.enc] at HN1 HN2 HB0 HF0 ⊢
 clear hf0 hb0 hsc
 by_cases h0:M=0
 ·subst h0
  go_enter Tryz.func25,Tryz.ntmps25
  go_wp2_with fail
  refine(HN1.out _).mono ?_
  rintro e w1 ⟨⟨-,p1,rfl,hp1,hI1⟩ | ⟨hx,-⟩,hf1⟩
  case inr=>exact absurd rfl hx
  have HF1:=hhd (HF0.out.then0 hf1)
  have hb1:=(hf1.at (k:=w.heap.size) id (lt_of_block HB0.out)).trans HB0.out
  obtain⟨m1,n1,l1⟩:=box_cells hb1
  have HI1:=hhd hI1
  clear hf1 hb1 hI1 HN1
  go_wp2_with fail
  refine(HN2.out _).mono ?_
  rintro e w2 ⟨⟨-,p2,rfl,hp2,hI2⟩ | ⟨hx,-⟩,hf2⟩
  case inr=>exact absurd rfl hx
  have hS:LsS w p1 p2 (fun k=>k=p1) (fun k=>k=p2) { s:=sc } { s:=sc } w2:=by
   have hlt2:p2 < w2.heap.size:=by obtain⟨_,_,_,h1,-⟩:=hI2;exact lt_of_block h1
   have hlt1:p1 < w1.heap.size:=by obtain⟨_,_,_,h1,-⟩:=HI1.out;exact lt_of_block h1
   have z0:=HF0.out.size;have z1:=HF1.out.size;have z2:=hf2.size
   refine⟨⟨by rw[HSC.out];exact HI1.out.fr hf2 fun _ _=>id,fun k hk=>by subst hk;omega,HF1.out.then0 hf2⟩,by rw[HSC.out];exact hI2,fun k hk=>by subst hk;omega,fun k h1 h2=>by omega⟩
  have HS:=hhd hS;have HBB:=hhd (HBU.out trivial)
  clear hf2 hI2 hS HI1 m1 n1 l1 HN2 HBU
  go_wp2_with fail
  go_loopw [12] (fun iv wr=>∃ (k:Nat) (R1 R2:Nat→Prop) (m:PL),k≤L∧iv = .int .i64 k∧Hid (LsS w p1 p2 R1 R2 m m wr)∧Hid (Built sc m k)) (fun iv _=>L - (intOf iv).toNat)
  case atStart=>exact⟨0,_,_,_,Nat.zero_le _,by first | rfl | go_num,HS.out,HBB.out⟩
  case round=>
   obtain⟨k,R1,R2,m,hk,rfl,hS1,hB1⟩:=hrel
   by_cases hlt:k < L
   ·obtain rfl:=r3 (by omega)
    have hx:k < cs.length:=by rw[HL.out];exact hlt
    have hki:(k:Int) < (L:Int):=by omega
    have d0:=hS1.out.ll.2.2.cell id (H5.out k hx 0 (by decide))
    have d1:=hS1.out.ll.2.2.cell id (H5.out k hx 1 (by decide))
    obtain⟨hwt,bw,ys,hw,hyo⟩:=HG.out cs[k] (List.getElem_mem hx)
    obtain⟨⟨ct,ca,cn,cc⟩,hcv⟩:∃ c,cs[k]=c:=⟨_,rfl⟩
    rw[hcv] at d0 d1 hw hwt
    simp only [CmV.enc,List.getElem?_cons_zero,List.getElem?_cons_succ,Nat.add_zero] at d0 d1 hw hwt
    have ha1:=ls_add1 (c:=⟨ct,ca,cn,cc⟩) hS1.out hB1.out (by omega) hw hyo
    have ha2:=fun(W':World) (R':Nat→Prop) (h:LsS w p1 p2 R' R2 (addPL m ⟨ct,ys⟩).1 m W')=>ls_add2 (c:=⟨ct,ca,cn,cc⟩) h hB1.out (by omega) hw
    have hb':=hB1.out.add ⟨ct,ys⟩ hwt hyo
    simp only [CmV.enc] at ha1 ha2
    have HA1:=hhd ha1;have HA2:=hhd ha2;have HB':=hhd hb';have HS1:=hhd hS1.out
    have hbw:b < w.heap.size:=HBW.out (by omega)
    have D0:=hhd (H5.out k hx 0 (by decide));have D1:=hhd (H5.out k hx 1 (by decide))
    rw[hcv] at D0 D1
    simp only [CmV.enc,List.getElem?_cons_zero,List.getElem?_cons_succ,Nat.add_zero] at D0 D1
    clear ha1 ha2 hb' hS1 hB1 hw hyo hwt hcv
    go_wp2_with fail
    refine HA1.out.mono ?_
    rintro e w3 ⟨⟨a1,E1,rfl⟩,R1',hS3⟩
    have e0:=hS3.ll.2.2.cell id D0.out
    have e1:=hS3.ll.2.2.cell id D1.out
    have HS3:=hhd hS3
    clear d0 d1 hS3
    go_wp2_with fail
    refine(HA2.out _ _ HS3.out).mono ?_
    rintro e w4 ⟨⟨a2,E2,rfl⟩,R2',hS4⟩
    have HS4:=hhd hS4
    clear e0 e1 hS4
    go_wp2_with fail
    go_roundw
    case rel=>exact⟨k+1,R1',R2',_,by omega,by go_num,HS4.out,HB'.out⟩
    case measure=>simp [intOf];omega
   ·obtain rfl:k=L:=by omega
    have hki:¬(k:Int) < (k:Int):=by omega
    have HS1:=hhd hS1.out;have HLK:=hhd hB1.out.lok;have HM0:=hhd hB1.out.marked
    clear hS1 hB1
    by_cases h0:0 < t
    ·obtain⟨ks,hks⟩:=exists_nodes m t
     have hm1:=ls_mark1 HS1.out HLK.out (by omega) t (by rw[HM0.out];omega) ks hks
     have hm2:=fun(W':World) (R':Nat→Prop) (h:LsS w p1 p2 R' R2 (markPL m t (trsOf (haveAt m t) ks)) m W')=>ls_mark2 h HLK.out (by omega) t (by rw[HM0.out];omega) ks hks
     have HM1:=hhd hm1;have HM2:=hhd hm2;have HLM:=hhd (HLK.out.mark t hks)
     clear hm1 hm2 hks
     go_wp2_with fail
     refine HM1.out.mono ?_
     rintro e w3 ⟨rfl,R1',hS3⟩
     have HS3:=hhd hS3
     clear hS3
     go_wp2_with fail
     refine(HM2.out _ _ HS3.out).mono ?_
     rintro e w4 ⟨rfl,R2',hS4⟩
     have HS4:=hhd hS4
     clear hS4
     go_wp2_with fail
     exact HYES.out _ _ _ _ _ _ _ HS4.out HLM.out (by omega)
    ·go_wp2_with fail
     exact HYES.out _ _ _ _ _ _ _ HS1.out HLK.out (by omega)
 ·have hM':(M != 0)=true:=by simpa using h0
  go_enter Tryz.func25,Tryz.ntmps25
  go_wp2_with fail
  refine(HN1.out _).mono ?_
  rintro e w1 ⟨⟨hx,-⟩ | ⟨-,rfl⟩,hf1⟩
  ·exact absurd hx h0
  have HF1:=hhd (HF0.out.then0 hf1)
  have hb1:=(hf1.at (k:=w.heap.size) id (lt_of_block HB0.out)).trans HB0.out
  obtain⟨m1,n1,l1⟩:=box_cells hb1
  clear hf1 hb1 HN1
  go_wp2_with fail
  refine(HN2.out _).mono ?_
  rintro e w2 ⟨⟨hx,-⟩ | ⟨-,rfl⟩,hf2⟩
  ·exact absurd hx h0
  have HF2:=hhd (HF1.out.then0 hf2)
  clear hf2 m1 n1 l1 HN2
  go_wp2_with fail
  exact HNO.out _ h0 HF2.out
end
section
open Go.RowKit Go.Shelf Go.Maps Go.Sort
attribute [local go_sem] Oper.semAt_some
attribute [local irreducible] wpQuiet
structure BacksAre(l:PL)(t u:Int)(bs:List Int):Prop where
 rises:RisesBy id bs
 mem:∀ x,x ∈ bs↔(haveAt l t x).any (eqVal (nodeV u))=true
theorem exists_backs(l:PL)(t u:Int):∃ bs,BacksAre l t u bs:=by
 obtain⟨ks,hk⟩:=exists_nodes l t
 obtain⟨bs,h1,h2⟩:=exists_rises (fun x=>(haveAt l t x).any (eqVal (nodeV u))=true) ks fun x hx=>(hk.mem x).2 fun e=>by rw[e] at hx;simp at hx
 exact⟨bs,h1,h2⟩
theorem NewInts.are{W:World}{P:Int→Prop}{e:Ending}{w':World}(h:NewInts W P e w'){bs:List Int}(h1:RisesBy id bs)(h2:∀ u,u ∈ bs↔P u):∃ a c,e = .returned (.slice a bs.length c)∧w'.ownsRow W.heap.size 33 1 (.slice a bs.length c) bs.length (bs.map (Value.int .u64))∧Fr N0 W w':=by
 obtain⟨v,xs,rfl,hr,g1,g2,hf⟩:=h
 obtain rfl:=rises_unique g1 h1 fun x=>(g2 x).trans (h2 x).symm
 obtain⟨a,c,rfl⟩:=row_form hr
 exact⟨a,c,rfl,hr,hf⟩
theorem r19Node_any(W:World)(u:Int):Calls Tryz.prog 112 #[.int .u64 u] W fun e w'=>e = .returned (.agg (nodeV u).enc.toArray)∧Fr N0 W w':=by
 go_enter Tryz.func112,Tryz.ntmps112
 go_wp2_with (go_loud (refine wpList_store_row rfl 57 _ _ rfl W.heap.size _ rfl rfl 57 _ (World.alloc_heap_new _ _) valX_size rfl (by simp [Value.oneCell']) ?_))
 refine bodyPost_ret_by (results_cell_row rfl _ _ W.heap.size 57 _ (0,0) _ rfl (setRow_heap _ _ _ _ _ _ (World.alloc_heap_new _ _)) Tryz.underlying57 rfl valX_size) rfl ?_
 exact⟨rfl,((Fr.refl N0 W).alloc _).trans (fr_setRow _ _ _) fun k hk=>.inr (by rw[hk];exact Nat.le_refl _)⟩
section
variable (W:World) (R:Nat→Prop) (p:Nat) (l:PL) (N:Nat) (h:IsPL W R p l) (hl:l.AtOk N) (hN:N≤8000000000) (t u:Int) (hu:(Lit.int .u64 u).wf=true) (bs:List Int) (hb:BacksAre l t u bs) (back:Bool)
include h hl hN hu hb
end
section
variable (W:World) (p:Nat) (l:PL) (a:Option Addr) (bc off cap N:Nat) (h:XRead W p l a bc off cap) (hl:l.AtOk N) (hN:N≤900000000) (hrs:RisesBy Cm.time l.commits) (t u:Int) (bs:List Int) (hb:BacksAre l t u bs) (back:Bool)
include h hl hN hrs hb
end
def NumsE(W:World)(xs:List Int)(E:Int)(e:Ending)(w':World):Prop:=∃ v b,e = .returned (.tuple #[v,.int .i64 E])∧Ints .u64 w' b v xs∧Fr N0 W w'
theorem numsE_row{W w':World}{xs:List Int}{v:Value}{base:Nat}{E:Int}(h:w'.ownsRow base 33 1 v xs.length (xs.map (Value.int .u64)))(hw:∀ x ∈ xs,(Lit.int .u64 x).wf=true)(hf:Fr N0 W w'):NumsE W xs E (.returned (.tuple #[v,.int .i64 E])) w':=by
 obtain⟨b,-,hI⟩:=ints_rowH h hw
 exact⟨v,b,rfl,hI,hf⟩
section
variable (W:World) (R:Nat→Prop) (p:Nat) (l:PL) (N:Nat) (h:IsPL W R p l) (hl:l.AtOk N) (hN:N≤8000000000) (t u:Int)
include h hl
include hN
end
section
variable (W:World) (p:Nat) (l:PL) (a:Option Addr) (bc off cap N:Nat) (h:XRead W p l a bc off cap) (hl:l.AtOk N) (hN:N≤900000000) (hrs:RisesBy Cm.time l.commits) (t u:Int) (bs:List Int) (hb:BacksAre l t u bs) (back:Bool)
include h hl hN hrs hb
end
end
section
open Go.RowKit Go.Shelf
structure InS(S:World→Prop) where
 w:World
 h:S w
theorem wp_region_inS{P:Program}{id:Nat}{Q:Exit→Act→World→Prop}{a:Act}{w:World}{l:List Oper}(S:World→Prop)(hm:P.follows .mixedOrders=true)(hB:Region.lexB .any l.toArray=true)(hS:S w.drew)
  (h:∀ _:Nonempty (InS S),wpQuiet P l.toArray (fun w'=>∃ p:InS S,w'=p.w) (fun a'=>∀ w',(∃ p:InS S,w'=p.w)→Q .normal a' w') l a):(Code.region id l.toArray true).wp P Q a w:=
 wp_region_quiet (C:=fun w'=>∃ p:InS S,w'=p.w) hm hB ⟨⟨_,hS⟩,rfl⟩ (by simpa using h ⟨⟨_,hS⟩⟩)
structure Kept(S:World→Prop)(W:World):Prop where
 now:S W
 keep:∀ A B,Fr N0 A B→S A→S B
theorem kept_start{W0 W:World}(h:Fr N0 W0 W):Kept (fun W'=>Fr N0 W0 W') W:=⟨h,fun _ _ hf h=>h.then0 hf⟩
theorem kept_cons{S:World→Prop}{W:World}{a:Addr}{v:Value}(c:W.cell? a=some v)(k:Kept S W):Kept (fun W'=>W'.cell? a=some v∧S W') W:=
 ⟨⟨c,k.now⟩,fun A B hf h=>⟨hf.cell id h.1,k.keep A B hf h.2⟩⟩
theorem wp_region_kept{P:Program}{id:Nat}{Q:Exit→Act→World→Prop}{a:Act}{w:World}{l:List Oper}{S:World→Prop}(k:Kept S w)(hm:P.follows .mixedOrders=true)(hB:Region.lexB .any l.toArray=true)
  (h:∀ _:Nonempty (InS S),wpQuiet P l.toArray (fun w'=>∃ p:InS S,w'=p.w) (fun a'=>∀ w',(∃ p:InS S,w'=p.w)→Q .normal a' w') l a):(Code.region id l.toArray true).wp P Q a w:=
 wp_region_inS S hm hB (k.keep _ _ ((Fr.refl _ _).drew) k.now) h
theorem kept_open{S:World→Prop}{W:World}(k:Kept S W):∃ S',Kept S' W∧(∀ x:InS S',S x.w)∧∀ w,S' w→S w:=⟨S,k,fun x=>x.h,fun _ h=>h⟩
end
end Go.Proofs.YtefepfiijoafbaaGreat
