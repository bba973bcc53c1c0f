/- RFit RFit2 XLay XAdd0 -/
import Derived.Test.YtefepfiijoafbaaGreatQBS
import Derived.Test.YtefepfiijoafbaaGreatQEq4
import Derived.Test.YtefepfiijoafbaaGreatQXUids
import Derived.Test.YtefepfiijoafbaaGreatQR3SortT
set_option linter.unusedVariables false
set_option linter.unusedSimpArgs false
set_option maxRecDepth 100000
set_option maxHeartbeats 8000000
namespace Go.Proofs.YtefepfiijoafbaaGreat
section
open Go.RowKit Go.Shelf
attribute [local go_sem] Oper.semAt_some
attribute [local irreducible] wpQuiet
theorem r4Fits_any(s:Sch)(x:Wr)(w:World):Calls Tryz.prog 193 #[.agg s.enc.toArray,.agg x.enc.toArray] w fun e w'=>e = .returned (.int .i64 (fitE s x))∧Fr N0 w w':=by
 have hS:=fun W=>r4Schema_any s W
 have hM:=fun W=>r4May_any x W
 obtain⟨Z,hZ⟩:∃ Z,fitE s x=Z:=⟨_,rfl⟩
 rw[hZ]
 unfold fitE at hZ
 obtain⟨M,hMe⟩:∃ M,schMay s=M:=⟨_,rfl⟩
 obtain⟨E,hEe⟩:∃ E,trMay x=E:=⟨_,rfl⟩
 simp only [hMe] at hS hZ
 simp only [hEe] at hM hZ
 obtain⟨sp,st,sl,se,sm,so,sr,sc⟩:=s
 obtain⟨xd,xu,xp,vk,vb,vn,vs,vu⟩:=x
 unfold Sch.enc at hS ⊢
 unfold Wr.tenc at hM
 unfold Wr.enc
 simp only at hS hM hZ ⊢
 have HZ:=hhd hZ.symm
 have HS:=hhd hS;have HM:=hhd hM
 obtain⟨W0,hW0⟩:∃ W0,(w.alloc (Obj.cells #[.string sp,.int .u8 st,.bool sl,.bool se,.bool sm,.bool so,.bool sr,.bool sc] 32)).alloc (Obj.cells #[.bool xd,.int .u64 xu,.string xp,.int .u8 vk,.bool vb,.int .i64 vn,.string vs,.int .u64 vu] 61)=W0:=⟨_,rfl⟩
 have hf0:Fr N0 w W0:=by rw[← hW0];exact((Fr.refl _ _).alloc _).alloc _
 have hb1:W0.heap[w.heap.size]?=some (Obj.cells #[.string sp,.int .u8 st,.bool sl,.bool se,.bool sm,.bool so,.bool sr,.bool sc] 32 (0,0)):=by rw[← hW0];exact(Below.heap_alloc _ _ _ (by simp)).trans (World.alloc_heap_new w _)
 have hb2:W0.heap[w.heap.size+1]?=some (Obj.cells #[.bool xd,.int .u64 xu,.string xp,.int .u8 vk,.bool vb,.int .i64 vn,.string vs,.int .u64 vu] 61 (0,0)):=by
  rw[← hW0]
  have:=World.alloc_heap_new (w.alloc (Obj.cells #[.string sp,.int .u8 st,.bool sl,.bool se,.bool sm,.bool so,.bool sr,.bool sc] 32)) (Obj.cells #[.bool xd,.int .u64 xu,.string xp,.int .u8 vk,.bool vb,.int .i64 vn,.string vs,.int .u64 vu] 61)
  rwa [World.size_alloc] at this
 have HB1:=hhd hb1;have HB2:=hhd hb2;have HF0:=hhd hf0
 obtain⟨m1,n1,l1⟩:=box_cells hb1
 clear hS hM hZ hMe hEe hb1 hb2 hf0
 go_enter Tryz.func193,Tryz.ntmps193
 go_wp2_with fail
 clear hW0
 refine(HS.out _).mono ?_
 rintro e w1 ⟨rfl,hf1⟩
 obtain⟨m2,n2,l2⟩:=box_cells ((hf1.at (k:=w.heap.size+1) id (lt_of_block HB2.out)).trans HB2.out)
 have HF1:=hhd hf1
 clear m1 n1 l1 hf1
 by_cases hM0:M=0
 ·subst hM0
  go_wp2_with fail
  refine(HM.out _).mono ?_
  rintro e w2 ⟨rfl,hf2⟩
  have hf12:=HF1.out.then0 hf2
  obtain⟨m3,n3,l3⟩:=box_cells ((hf12.at (k:=w.heap.size+1) id (lt_of_block HB2.out)).trans HB2.out)
  obtain⟨m4,n4,l4⟩:=box_cells ((hf12.at (k:=w.heap.size) id (lt_of_block HB1.out)).trans HB1.out)
  have HF2:=hhd (HF0.out.then0 hf12)
  clear m2 n2 l2 hf2 hf12
  by_cases hE0:E=0
  ·subst hE0
   by_cases hp:xp=sp
   ·subst hp
    by_cases hk:vk=st
    ·subst hk
     go_wp2
     go_ret
     exact⟨ret_int (by rw[HZ.out];simp),HF2.out⟩
    ·go_wp2
     all_goals
      go_ret
      exact⟨ret_int (by rw[HZ.out];simp_all),HF2.out⟩
   ·have hpl:¬ xp.toList=sp.toList:=fun e=>hp (by
     rw[ByteArray.toList_eq,ByteArray.toList_eq] at e
     exact ByteArray.ext (Array.toList_inj.1 e))
    have hpl2:(xp.toList == sp.toList)=false:=by simpa using hpl
    go_wp2
    go_ret
    exact⟨ret_int (by rw[HZ.out];simp [hp]),HF2.out⟩
  ·have hE':(E == 0)=false:=by simpa using hE0
   go_wp2
   go_ret
   exact⟨ret_int (by rw[HZ.out];simp [hE0]),HF2.out⟩
 ·have hM':(M == 0)=false:=by simpa using hM0
  have HF2:=hhd (HF0.out.then0 HF1.out)
  clear m2 n2 l2
  go_wp2
  go_ret
  exact⟨ret_int (by rw[HZ.out];simp [hM0]),HF2.out⟩
noncomputable def rfI:Code:=srIn (lvFst (srSnd (srLoop (srIn (srSnd (lvFst (lvSuf 2 ((Tryz.f133.body).getD .skip))))))))
abbrev FitH(B C b q:Nat)(s:Sch)(a:Option Addr)(n cp:Nat)(x:Wr)(W:World):Prop:=
 (W.cell? ⟨B,0,none⟩=some (.string s.pred)∧W.cell? ⟨B,1,none⟩=some (.int .u8 s.ty)∧W.cell? ⟨B,2,none⟩=some (.bool s.list)∧W.cell? ⟨B,3,none⟩=some (.bool s.exact_)∧W.cell? ⟨B,4,none⟩=some (.bool s.term)∧W.cell? ⟨B,5,none⟩=some (.bool s.order)∧W.cell? ⟨B,6,none⟩=some (.bool s.rev)∧W.cell? ⟨B,7,none⟩=some (.bool s.count)) ∧
 W.cell? ⟨C,1,none⟩=some (.slice a n cp) ∧
 W.cell? ⟨b,q,none⟩=some (.bool x.del)∧W.cell? ⟨b,q+1,none⟩=some (.int .u64 x.uid)∧W.cell? ⟨b,q+2,none⟩=some (.string x.pred)∧W.cell? ⟨b,q+3,none⟩=some (.int .u8 x.val.k) ∧
 W.cell? ⟨b,q+4,none⟩=some (.bool x.val.b)∧W.cell? ⟨b,q+5,none⟩=some (.int .i64 x.val.n)∧W.cell? ⟨b,q+6,none⟩=some (.string x.val.s)∧W.cell? ⟨b,q+7,none⟩=some (.int .u64 x.val.u)
theorem fith_fr{B C b q:Nat}{s:Sch}{a:Option Addr}{n cp:Nat}{x:Wr}{W W':World}(hf:Fr N0 W W')(h:FitH B C b q s a n cp x W):FitH B C b q s a n cp x W':=by
 obtain⟨⟨g1,g2,g3,g4,g5,g6,g7,g8⟩,h3,h4,h5,h6,h7,h8,h9,h10,h11⟩:=h
 exact⟨⟨hf.cell id g1,hf.cell id g2,hf.cell id g3,hf.cell id g4,hf.cell id g5,hf.cell id g6,hf.cell id g7,hf.cell id g8⟩,hf.cell id h3,hf.cell id h4,hf.cell id h5,hf.cell id h6,hf.cell id h7,hf.cell id h8,hf.cell id h9,hf.cell id h10,hf.cell id h11⟩
theorem rfR6{K:Act→World→Prop}{Q:Exit→Act→World→Prop}(W:World)(f:Nat→Value)(B C b off k n cp:Nat)(s:Sch)(x:Wr)
  (h2:f 2 = .pointer (some ⟨B,0,none⟩)) (h3:f 3 = .pointer (some ⟨C,0,none⟩)) (h6:f 6 = .int .i64 k) (hk:k < n)
  (hx:FitH B C b (off+k * 8) s (some ⟨b,off,none⟩) n cp x W)
  (hK:∀ f' W',KpX [0,1,2,3,4,5,6,8,9,10,11,12,13,14,15,16,17,18,19,20,21,22,40] f f'→f' 7 = .int .i64 (fitE s x)→Fr N0 W W'→K (frA 41 f') W') :
  Code.wp Tryz.prog (lvFst rfI) (Exit.then K Q) (frA 41 f) W:=by
 have hF:=fun W=>r4Fits_any s x W
 obtain⟨Z,hZ⟩:∃ Z,fitE s x=Z:=⟨_,rfl⟩
 simp only [hZ] at hF hK
 have HKP:Hid ([0,1,2,3,4,5,6,8,9,10,11,12,13,14,15,16,17,18,19,20,21,22,40].map f = [f 0,f 1,.pointer (some ⟨B,0,none⟩),.pointer (some ⟨C,0,none⟩),f 4,f 5,.int .i64 k,f 8,f 9,f 10,f 11,f 12,f 13,f 14,f 15,f 16,f 17,f 18,f 19,f 20,f 21,f 22,f 40]):=by
  show[f 0,f 1,f 2,f 3,f 4,f 5,f 6,f 8,f 9,f 10,f 11,f 12,f 13,f 14,f 15,f 16,f 17,f 18,f 19,f 20,f 21,f 22,f 40]=_
  rw[h2,h3,h6]
 have hx':=fith_fr (Fr.refl N0 W).drew hx
 obtain⟨sp,st,sl,se,sm,so,sr,sc⟩:=s
 obtain⟨xd,xu,xp,yk,yb,yn,ys,yu⟩:=x
 simp only [Wr.enc,Sch.enc] at hF
 have HF:=hhd hF;have HK:=hhd hK
 have HX:=hhd hx'
 obtain⟨⟨g1,g2,g3,g4,g5,g6,g7,g8⟩,e3,e4,e5,e6,e7,e8,e9,e10,e11⟩:=hx
 have hi1:(k:Int) < (n:Int):=by omega
 have hi0:(0:Int)≤(k:Int):=by omega
 clear hF hK hZ hx'
 show Code.wp _ _ _ { tmps:=#[f 0,f 1,f 2,f 3,f 4,f 5,f 6,f 7,f 8,f 9,f 10,f 11,f 12,f 13,f 14,f 15,f 16,f 17,f 18,f 19,f 20,f 21,f 22,f 23,f 24,f 25,f 26,f 27,f 28,f 29,f 30,f 31,f 32,f 33,f 34,f 35,f 36,f 37,f 38,f 39,f 40],defers:=[] } _
 rw[h2,h3,h6]
 clear h2 h3 h6
 conv=>arg 2;whnf
 go_region_held3 (FitH B C b (off+k * 8) ⟨sp,st,sl,se,sm,so,sr,sc⟩ (some ⟨b,off,none⟩) n cp ⟨xd,xu,xp,yk,yb,yn,ys,yu⟩) (first
  |(with_reducible assumption)
  |(with_reducible exact HX.out)
  |(with_reducible exact hb3)
  | fail) (first
  |(go_simp;go_at_call 193;(refine(HF.out _).mono ?_;rintro e w3 ⟨rfl,hf3⟩;have hb3:=fith_fr hf3 HX.out))
  | fail)
 all_goals
  refine cut_use (n:=41) (K:=K) _ rfl ?_
  exact HK.out _ _ (kpX_mk (Eq.trans rfl HKP.out.symm)) rfl ((Fr.refl N0 W).drew.then0 hf3)
noncomputable def fitX(s:Sch)(t:Int)(xs:List Wr):Int:=if t=0∨xs.length=0∨256 < xs.length then 180 else firstNZ (xs.map (fitE s))
theorem r18Fit_any(w:World)(s:Sch)(c:CmV)(b:Nat)(xs:List Wr)(h:Wrs w b (.slice c.a c.n c.c) xs) :
  Calls Tryz.prog 133 #[.agg s.enc.toArray,.agg c.enc.toArray] w fun e w'=>(∃ a:Int,e = .returned (.tuple #[.int .i64 a,.int .i64 (fitX s c.time xs)]))∧Fr N0 w w':=by
 obtain⟨t,a,n,cp⟩:=c
 obtain⟨a',off,cap,he,h1,h2,h3,h4,h5⟩:=h
 injection he with ha hn hc
 subst ha hn hc
 simp only [CmV.enc]
 obtain⟨E,hE⟩:∃ E,fitX s t xs=E:=⟨_,rfl⟩
 obtain⟨T,hT⟩:∃ T:Wr→Int,(fun x=>fitE s x)=T:=⟨_,rfl⟩
 have hTx:∀ x,fitE s x=T x:=fun x=>by rw[← hT]
 have hE':E=if t=0∨xs.length=0∨256 < xs.length then 180 else firstNZ (xs.map T):=by rw[← hE,← hT];rfl
 rw[hE]
 clear hE hT
 have HC:=hhd h5;have HE:=hhd hE';have HT:=hhd hTx
 clear h5 hE' h4 hTx
 obtain⟨se',hse⟩:∃ se',s=se':=⟨_,rfl⟩
 have HSE:=hhd hse
 rw[hse] at HT
 clear hse
 obtain⟨sp,st,sl,se,sm,so,sr,sc⟩:=s
 unfold Sch.enc
 simp only
 by_cases ht:t=0
 ·have hE:E=180:=by rw[HE.out,if_pos (.inl ht)]
  subst ht hE
  go_enter Tryz.func133,Tryz.ntmps133
  go_wp2
  go_ret2
  exact⟨⟨_,rfl⟩,((Fr.refl _ _).alloc _).alloc _⟩
 have ht':(t == 0)=false:=by simpa using ht
 by_cases hn0:xs.length=0
 ·have hE:E=180:=by rw[HE.out,if_pos (.inr (.inl hn0))]
  subst hE
  have hn0':(xs.length:Int)=0:=by omega
  go_enter Tryz.func133,Tryz.ntmps133
  go_wp2
  go_ret2
  exact⟨⟨_,rfl⟩,((Fr.refl _ _).alloc _).alloc _⟩
 have hn0':¬(xs.length:Int)=0:=by omega
 have hn0'':((xs.length:Int) == 0)=false:=by simpa using hn0
 by_cases hn1:256 < xs.length
 ·have hE:E=180:=by rw[HE.out,if_pos (.inr (.inr hn1))]
  subst hE
  have hn1':(256:Int) < (xs.length:Int):=by omega
  go_enter Tryz.func133,Tryz.ntmps133
  go_wp2
  go_ret2
  exact⟨⟨_,rfl⟩,((Fr.refl _ _).alloc _).alloc _⟩
 have hn1':¬(256:Int) < (xs.length:Int):=by omega
 have hE:E=firstNZ (xs.map T):=by rw[HE.out,if_neg (by rintro(h | h | h) <;> contradiction)]
 have HE2:=hhd hE
 clear hE HE
 obtain⟨nn,hnn⟩:∃ nn,xs.length=nn:=⟨_,rfl⟩
 have HNN:=hhd hnn
 rw[hnn] at h1 h3 hn0 hn0' hn0'' hn1 hn1'
 simp only [hnn]
 obtain⟨W0,hW0⟩:∃ W0,(w.alloc (Obj.cells #[.string sp,.int .u8 st,.bool sl,.bool se,.bool sm,.bool so,.bool sr,.bool sc] 32)).alloc (Obj.cells #[.int .u64 t,.slice a nn cp] 80)=W0:=⟨_,rfl⟩
 have hf0:Fr N0 w W0:=by rw[← hW0];exact((Fr.refl _ _).alloc _).alloc _
 have hb1:W0.heap[w.heap.size]?=some (Obj.cells #[.string sp,.int .u8 st,.bool sl,.bool se,.bool sm,.bool so,.bool sr,.bool sc] 32 (0,0)):=by rw[← hW0];exact(Below.heap_alloc _ _ _ (by simp)).trans (World.alloc_heap_new w _)
 have hb2:W0.heap[w.heap.size+1]?=some (Obj.cells #[.int .u64 t,.slice a nn cp] 80 (0,0)):=by
  rw[← hW0]
  have:=World.alloc_heap_new (w.alloc (Obj.cells #[.string sp,.int .u8 st,.bool sl,.bool se,.bool sm,.bool so,.bool sr,.bool sc] 32)) (Obj.cells #[.int .u64 t,.slice a nn cp] 80)
  rwa [World.size_alloc] at this
 have HB1:=hhd hb1;have HB2:=hhd hb2;have HF0:=hhd hf0
 obtain⟨m2,n2,l2⟩:=box_cells hb2
 clear hb1 hb2 hf0 hnn
 go_enter Tryz.func133,Tryz.ntmps133
 go_wp2
 try rw[hW0]
 clear hW0 m2 n2 l2
 go_loopw [6,7] (fun iv ev wr=>∃ k:Nat,k≤nn∧iv = .int .i64 k∧Hid (∀ j (h:j < xs.length),j < k→T xs[j]=0)∧Hid (Fr N0 W0 wr)) (fun iv _ _=>nn - (intOf iv).toNat)
 case atStart=>exact⟨0,Nat.zero_le _,by first | rfl | go_num,hhd fun j h hj=>by omega,Fr.refl _ _⟩
 case round=>
  obtain⟨k,hk,rfl,hn,hfr⟩:=hrel
  have hb2r:=(hfr.out.at (k:=w.heap.size+1) id (lt_of_block HB2.out)).trans HB2.out
  obtain⟨m2,n2,l2⟩:=box_cells hb2r
  by_cases hlt:k < nn
  ·obtain rfl:=h3 (by omega)
   have hkx:k < xs.length:=by rw[HNN.out];exact hlt
   have hki:(k:Int) < (nn:Int):=by omega
   have hb1r:=(hfr.out.at (k:=w.heap.size) id (lt_of_block HB1.out)).trans HB1.out
   obtain⟨m1,n1,l1⟩:=box_cells hb1r
   obtain⟨c0,c1,c2,c3,c4,c5,c6,c7⟩:=wr_cells (W:=w) (HC.out k hkx)
   have hfw:=HF0.out.then0 hfr.out
   have hxh:FitH w.heap.size (w.heap.size+1) b (off+k * 8) ⟨sp,st,sl,se,sm,so,sr,sc⟩ (some ⟨b,off,none⟩) nn cp xs[k] wr:=
    ⟨⟨m1 0,m1 1,m1 2,m1 3,m1 4,m1 5,m1 6,m1 7⟩,m2 1,hfw.cell id c0,hfw.cell id c1,hfw.cell id c2,hfw.cell id c3,hfw.cell id c4,hfw.cell id c5,hfw.cell id c6,hfw.cell id c7⟩
   have hnx:T xs[k]=0→∀ j (h:j < xs.length),j < k+1→T xs[j]=0:=fun he j h hj=>by
    rcases Nat.lt_or_ge j k with h' | h'
    ·exact hn.out j h h'
    ·have:j=k:=by omega
     subst this;exact he
   have hfd:T xs[k]≠0→E=T xs[k]:=fun hne=>by
    rw[HE2.out,firstNZ_at (k:=k) (by simpa using hkx) (fun j hj hjk=>by simpa using hn.out j (by simpa using hj) hjk) (by simpa using hne)]
    simp
   have hTk:fitE ⟨sp,st,sl,se,sm,so,sr,sc⟩ xs[k]=T xs[k]:=by rw[HSE.out];exact HT.out _
   obtain⟨q,hq⟩:∃ q,T xs[k]=q:=⟨_,rfl⟩
   rw[hq] at hnx hfd hTk
   have HXH:=hhd hxh;have HNX:=hhd hnx;have HFD:=hhd hfd;have HFR:=hhd hfr.out;have HFW:=hhd hfw;have HTK:=hhd hTk
   clear hxh hnx hfd hfr hfw hTk hq c0 c1 c2 c3 c4 c5 c6 c7 m1 n1 l1 hb1r hb2r hn
   go_wp2_with fail
   rename_i Kc hKc
   refine wp_frA (n:=41) _ rfl ?_
   refine rfR6 (K:=Kc) _ _ w.heap.size (w.heap.size+1) b off k nn cp ⟨sp,st,sl,se,sm,so,sr,sc⟩ xs[k] rfl rfl rfl hlt HXH.out fun f' W' kp e7 hF=>?_
   refine hKc _ _ ?_
   have z0:=kp 0 (by decide);have z1:=kp 1 (by decide);have z2:=kp 2 (by decide);have z3:=kp 3 (by decide);have z4:=kp 4 (by decide);have z5:=kp 5 (by decide);have z6:=kp 6 (by decide);have z8:=kp 8 (by decide);have z9:=kp 9 (by decide);have z10:=kp 10 (by decide);have z11:=kp 11 (by decide);have z12:=kp 12 (by decide);have z13:=kp 13 (by decide);have z14:=kp 14 (by decide);have z15:=kp 15 (by decide);have z16:=kp 16 (by decide);have z17:=kp 17 (by decide);have z18:=kp 18 (by decide);have z19:=kp 19 (by decide);have z20:=kp 20 (by decide);have z21:=kp 21 (by decide);have z22:=kp 22 (by decide);have z40:=kp 40 (by decide)
   rw[HTK.out] at e7
   have HF:=hhd hF
   clear kp hF hKc m2 n2 l2
   obtain⟨f,hf⟩:∃ f,f=f':=⟨_,rfl⟩
   subst hf
   show Code.wp _ _ _ { tmps:=#[f 0,f 1,f 2,f 3,f 4,f 5,f 6,f 7,f 8,f 9,f 10,f 11,f 12,f 13,f 14,f 15,f 16,f 17,f 18,f 19,f 20,f 21,f 22,f 23,f 24,f 25,f 26,f 27,f 28,f 29,f 30,f 31,f 32,f 33,f 34,f 35,f 36,f 37,f 38,f 39,f 40],defers:=[] } _
   rw[z0,z1,z2,z3,z4,z5,z6,e7,z8,z9,z10,z11,z12,z13,z14,z15,z16,z17,z18,z19,z20,z21,z22,z40]
   clear z0 z1 z2 z3 z4 z5 z6 e7 z8 z9 z10 z11 z12 z13 z14 z15 z16 z17 z18 z19 z20 z21 z22 z40
   by_cases hq0:q=0
   ·subst hq0
    go_wp2_with fail
    exact⟨⟨k+1,by omega,by first | rfl | go_num,hhd (HNX.out (by trivial)),hhd (HFR.out.then0 HF.out)⟩,by simp [intOf];omega⟩
   ·have hq':(q == 0)=false:=by simpa using hq0
    have hq2:(q != 0)=true:=by simpa using hq0
    obtain rfl:=HFD.out hq0
    go_wp2_with fail
    go_ret2
    exact⟨⟨_,rfl⟩,HFW.out.then0 HF.out⟩
  ·obtain rfl:k=nn:=by omega
   have hE0:E=0:=by
    rw[HE2.out]
    exact firstNZ_none fun y hy=>by
     obtain⟨x,hx,rfl⟩:=List.mem_map.1 hy
     obtain⟨j,hj,rfl⟩:=List.mem_iff_getElem.1 hx
     exact hn.out j hj (by rw[HNN.out] at hj;exact hj)
   subst hE0
   have HFW:=hhd (HF0.out.then0 hfr.out)
   have hki:¬(k:Int) < (k:Int):=by omega
   clear hfr hn hb2r
   go_wp2
   go_ret2
   exact⟨⟨_,rfl⟩,HFW.out⟩
end
section
open Go.RowKit Go.Shelf Go.Maps
attribute [local go_sem] Oper.semAt_some
attribute [local irreducible] wpQuiet
def layC(t:CmV):List CmV→List CmV
 | []=>[t]
 | x :: l=>if t.time < x.time then t :: x :: l else x :: layC t l
theorem layC_put{t:CmV}:∀ {L:List CmV} (x:CmV),(L.any fun y=>decide (t.time < y.time))=true→layC t (L ++ [x])=layC t L ++ [x]
 | [],_,h=>by simp at h
 | y :: L,x,h=>by
  unfold layC
  by_cases hy:t.time < y.time
  ·simp [hy]
  ·simp only [List.cons_append,if_neg hy]
   have:(L.any fun y=>decide (t.time < y.time))=true:=by simpa [hy] using h
   rw[layC_put x this]
theorem layC_none{t:CmV}:∀ {L:List CmV},(L.any fun y=>decide (t.time < y.time))=false→layC t L=L ++ [t]
 | [],_=>rfl
 | y :: L,h=>by
  have h':¬ t.time < y.time∧(L.any fun y=>decide (t.time < y.time))=false:=by simpa using h
  unfold layC
  rw[if_neg h'.1,layC_none h'.2];try rfl
theorem layC_new{t:CmV}:∀ {L:List CmV} (x:CmV),(L.any fun y=>decide (t.time < y.time))=false→t.time < x.time→layC t (L ++ [x])=L ++ [t] ++ [x]
 | [],x,_,hx=>by simp [layC,hx]
 | y :: L,x,h,hx=>by
  have h':¬ t.time < y.time∧(L.any fun y=>decide (t.time < y.time))=false:=by simpa using h
  simp only [List.cons_append]
  unfold layC
  rw[if_neg h'.1,layC_new x h'.2 hx];try rfl
def layO(t:CmV)(L:List CmV):List CmV:=if (L.any fun y=>decide (t.time < y.time))=true then layC t L else L
theorem layO_put{t x:CmV}{L:List CmV}(h:(L.any fun y=>decide (t.time < y.time))=true):layO t (L ++ [x])=layO t L ++ [x]:=by
 unfold layO
 rw[if_pos h,if_pos (by rw[List.any_append,h];rfl),layC_put x h]
theorem layO_no{t:CmV}{L:List CmV}(h:(L.any fun y=>decide (t.time < y.time))=false):layO t L=L:=by
 unfold layO;rw[if_neg (by rw[h];decide)]
theorem layO_new{t x:CmV}{L:List CmV}(h:(L.any fun y=>decide (t.time < y.time))=false)(hx:t.time < x.time):layO t (L ++ [x])=layO t L ++ [t] ++ [x]:=by
 rw[layO_no h]
 unfold layO
 rw[if_pos (by rw[List.any_append];simp [hx]),layC_new x h hx]
theorem layO_old{t x:CmV}{L:List CmV}(h:(L.any fun y=>decide (t.time < y.time))=false)(hx:¬ t.time < x.time):layO t (L ++ [x])=layO t L ++ [x]:=by
 rw[layO_no h,layO_no (by rw[List.any_append,h];simp [hx])]
theorem anyC_snoc{t x:CmV}{L:List CmV}:((L ++ [x]).any fun y=>decide (t.time < y.time))=((L.any fun y=>decide (t.time < y.time)) || decide (t.time < x.time)):=by simp
theorem lay_any(w:World)(b:Nat)(v:Value)(xs:List CmV)(h:RowsK CmV.enc 2 w b v xs)(hl:xs.length≤10000000000)(t:CmV) :
  Calls Tryz.prog 135 #[v,.agg t.enc.toArray] w fun e w'=>∃ v',e = .returned v'∧w'.ownsRow w.heap.size 80 2 v' (layC t xs).length ((layC t xs).flatMap CmV.enc)∧Fr N0 w w':=by
 obtain⟨i0,hi,hz0,hz1,hz2⟩:=info_parts insC_info
 obtain⟨a,off,cap,rfl,h1,h2,h3,-,h5⟩:=h
 obtain⟨n,hn⟩:∃ n,xs.length=n:=⟨_,rfl⟩
 have HN:=hhd hn;have HC:=hhd h5
 rw[hn] at h1 h3 hl
 obtain⟨w0,hw0⟩:∃ w0,w.alloc (.cells t.enc.toArray 80)=w0:=⟨_,rfl⟩
 have hf0:Fr N0 w w0:=by rw[← hw0];exact(Fr.refl _ _).alloc _
 have hb0:w0.heap[w.heap.size]?=some (.cells t.enc.toArray 80 (0,0)):=by rw[← hw0];exact World.alloc_heap_new w _
 have HF0:=hhd hf0;have HB0:=hhd hb0
 have hww:=hf0.size
 simp only [hn]
 obtain⟨Pst,hPst⟩:∃ Pst:Ending→World→Prop,(fun e w'=>∃ v',e = .returned v'∧w'.ownsRow w.heap.size 80 2 v' (layC t xs).length ((layC t xs).flatMap CmV.enc)∧Fr N0 w w')=Pst:=⟨_,rfl⟩
 have hpost:∀ v' w' (c:Nat),c=(layC t xs).length→w'.ownsRow w0.heap.size 80 2 v' c ((layC t xs).flatMap CmV.enc)→Fr N0 w0 w'→Pst (.returned v') w':=fun v' w' c hc hr hf=>by
  rw[← hPst]
  subst hc
  exact⟨v',rfl,ownsRow_base hr hww,HF0.out.then0 hf⟩
 rw[hPst]
 have HPOST:=hhd hpost
 have hbw:0 < n→b < w.heap.size:=fun h0=>lt_of_cell (p:=⟨b,off+0 * 2+0,none⟩) (h5 0 (by omega) 0 (by decide))
 obtain⟨te,hte⟩:∃ te,t=te:=⟨_,rfl⟩
 have HTE:=hhd hte
 rw[hte] at HPOST
 clear h5 hn hf0 hb0 hPst hpost hte
 obtain⟨tt,ta,tn,tc⟩:=t
 simp only [CmV.enc] at HB0 hw0 ⊢
 have ht:te.time=tt:=by rw[← HTE.out]
 have hen:te.enc = [.int .u64 tt,.slice ta tn tc]:=by rw[← HTE.out];rfl
 have HT:=hhd ht;have HEN:=hhd hen
 clear ht hen
 go_enter Tryz.func135,Tryz.ntmps135
 go_wp2
 try rw[hw0]
 clear hw0
 go_loopw [5,6,7] (fun ov pv iv wr=>∃ (k c:Nat) (p:Bool) (os:List CmV),k≤n∧iv = .int .i64 k∧pv = .bool p∧Hid (((xs.take k).any fun y=>decide (te.time < y.time))=p)∧c≤k+1∧Hid (os=layO te (xs.take k))∧Hid (c=os.length)∧Hid (wr.ownsRow w0.heap.size 80 2 ov c (os.flatMap CmV.enc))∧Hid (Fr N0 w0 wr)) (fun _ _ iv _=>n - (intOf iv).toNat)
 case atStart=>exact⟨0,0,false,[],Nat.zero_le _,rfl,rfl,hhd (by simp),by omega,hhd (by simp [layO]),hhd rfl,World.ownsRow_nil _ _ _ _,Fr.refl _ _⟩
 case round=>
  obtain⟨k,c,p,os,hk,rfl,rfl,hp,hc,ho,hcl,hrow,hfr⟩:=hrel
  obtain⟨oa,oc,rfl⟩:=row_form hrow.out
  have hwz:=hfr.out.size
  have hlt0:=lt_of_block HB0.out
  have hBr:=(hfr.out.at (k:=w.heap.size) id hlt0).trans HB0.out
  obtain⟨mB,nB,lB⟩:=box_cells hBr
  by_cases hlt:k < n
  ·obtain rfl:=h3 (by omega)
   have hx:k < xs.length:=by rw[HN.out];exact hlt
   have e1:=hfr.out.cell id (HF0.out.cell id (HC.out k hx 0 (by decide)))
   have e2:=hfr.out.cell id (HF0.out.cell id (HC.out k hx 1 (by decide)))
   have hts:=List.take_succ_eq_append_getElem hx
   obtain⟨xe,hx'⟩:∃ xe,xs[k]=xe:=⟨_,rfl⟩
   rw[hx'] at e1 e2 hts
   obtain⟨L,hL⟩:∃ L,xs.take k=L:=⟨_,rfl⟩
   obtain⟨L',hL'⟩:∃ L,xs.take (k+1)=L:=⟨_,rfl⟩
   rw[hL,hL'] at hts
   have hbw0:b < w0.heap.size:=by have:=hbw (by omega);omega
   have hki:(k:Int) < (n:Int):=by omega
   have hpo:=hp.out
   have hoo:=ho.out
   rw[hL] at hpo hoo
   have HTS:=hhd hts;have HFR:=hhd hfr.out;have HP:=hhd hpo;have HO:=hhd hoo;have HCL:=hhd hcl.out
   have HL':=hhd hL'
   have hLl:L.length=k:=by rw[← hL,List.length_take];omega
   have hrw:=hrow.out
   obtain⟨x,hxx⟩:∃ x,x=xe:=⟨_,rfl⟩
   have HXX:=hhd hxx
   rw[← hxx] at e1 e2
   clear hts hfr hrow hx' hx hp ho hcl hpo hoo hL hL' hxx
   obtain⟨xt,xa,xn,xc⟩:=x
   have hxt:xe.time=xt:=by rw[← HXX.out]
   have hxn:xe.enc = [.int .u64 xt,.slice xa xn xc]:=by rw[← HXX.out];rfl
   have HXT:=hhd hxt;have HXN:=hhd hxn
   clear hxt hxn
   simp only [CmV.enc,List.getElem?_cons_zero,List.getElem?_cons_succ,Nat.add_zero] at e1 e2
   cases p with
   | true=>
    go_wp2_with fail
    go_quiet (fail)
    obtain⟨wd,hwd⟩:∃ wd,wr.drewN nq=wd:=⟨_,rfl⟩
    have hfd:Fr N0 wr wd:=by rw[← hwd];exact(Fr.refl N0 wr).drewN _
    have hrd:wd.ownsRow w0.heap.size 80 2 (.slice oa c oc) c (os.flatMap CmV.enc):=hrw.fr0 hfd
    have d1:=hfd.cell id e1
    have d2:=hfd.cell id e2
    have hzd:=hfd.size
    obtain⟨mD,nD,lD⟩:=box_cells ((hfd.at (k:=w.heap.size) id (by omega)).trans hBr)
    have HFD:=hhd hfd
    rw[hwd]
    clear hwd e1 e2 mB nB lB hfd
    go_wp2_with (at_builtin;go_loud (refine wpList_append_lies _ rfl _ _ 36 rfl (w0.heap.size) 80 i0 (.agg #[.int .u64 0,.slice none 0 0]) 2 32 Tryz.underlying36 hi hz0 hz1 hz2 rfl (by decide) (.slice oa c oc) (c) _ rfl (hrd.alloc _) ⟨wd.heap.size,0,none⟩ 1 1 ([.int .u64 xt,.slice xa xn xc]) rfl rfl (World.news_of_block (cs:=([.int .u64 xt,.slice xa xn xc]).toArray) (t:=80) (fr:=(0,0)) (heap_alloc_new wd _)) (by simp [Value.oneCell']) (by omega) (by unfold maxLen;omega) (by omega) (by simp;omega) (wd.heap.size+1) (by simp) ?_);intro g1 cap1 w3 hown3 hgrow3 hfresh3 hlt3)
    go_roundw
    case rel=>
     have hfa:Fr (fun j=>(Value.slice oa c oc).ownBlock=some j) _ w3:=(Fr.refl _ _).grown hgrow3 fun j e=>.inl e
     exact⟨k+1,c+1,true,os ++ [xe],by omega,by go_num,rfl,hhd (by rw[HL'.out,HTS.out,anyC_snoc,HP.out];rfl),by omega,hhd (by rw[HL'.out,HTS.out,layO_put HP.out,HO.out]),hhd (by rw[HCL.out];simp),hhd (by rw[List.flatMap_append];simp only [List.flatMap_cons,List.flatMap_nil,List.append_nil,HXN.out];exact hown3),((HFR.out.then0 HFD.out).alloc _).trans hfa fun j hj=>.inr (by have:=(ownsRow_lt hrd _ hj).1;omega)⟩
    case measure=>simp [intOf];omega
   | false=>
    have hck:Hid (c=k):=hhd (by rw[HCL.out,HO.out,layO_no HP.out,hLl])
    by_cases htx:tt < xt
    ·go_wp2_with fail
     go_quiet (fail)
     obtain⟨wd,hwd⟩:∃ wd,wr.drewN nq=wd:=⟨_,rfl⟩
     have hfd:Fr N0 wr wd:=by rw[← hwd];exact(Fr.refl N0 wr).drewN _
     have hrd:wd.ownsRow w0.heap.size 80 2 (.slice oa c oc) c (os.flatMap CmV.enc):=hrw.fr0 hfd
     have d1:=hfd.cell id e1
     have d2:=hfd.cell id e2
     have hzd:=hfd.size
     obtain⟨mD,nD,lD⟩:=box_cells ((hfd.at (k:=w.heap.size) id (by omega)).trans hBr)
     have HFD:=hhd hfd
     rw[hwd]
     clear hwd e1 e2 mB nB lB hfd
     go_wp2_with (first
      |(at_builtin;go_loud (refine wpList_append_lies _ rfl _ _ 36 rfl (w0.heap.size) 80 i0 (.agg #[.int .u64 0,.slice none 0 0]) 2 32 Tryz.underlying36 hi hz0 hz1 hz2 rfl (by decide) (.slice oa c oc) (c) _ rfl (hrd.alloc _) ⟨wd.heap.size,0,none⟩ 1 1 ([.int .u64 tt,.slice ta tn tc]) rfl rfl (World.news_of_block (cs:=([.int .u64 tt,.slice ta tn tc]).toArray) (t:=80) (fr:=(0,0)) (heap_alloc_new wd _)) (by simp [Value.oneCell']) (by omega) (by unfold maxLen;omega) (by omega) (by simp;omega) (wd.heap.size+1) (by simp) ?_);intro g1 cap1 w3 hown3 hgrow3 hfresh3 hlt3;go_loud (have hfa3:Fr (fun j=>(Value.slice oa c oc).ownBlock=some j) _ w3:=(Fr.refl _ _).grown hgrow3 fun j e=>.inl e;have d1':=hfa3.cell (fun hj=>Nat.lt_irrefl _ (Nat.lt_of_lt_of_le hbw0 (ownsRow_lt hrd _ hj).1)) (((Fr.refl N0 wd).alloc _).cell id d1);have d2':=hfa3.cell (fun hj=>Nat.lt_irrefl _ (Nat.lt_of_lt_of_le hbw0 (ownsRow_lt hrd _ hj).1)) (((Fr.refl N0 wd).alloc _).cell id d2);have hz3:wd.heap.size+1≤w3.heap.size:=(by have h:=hfa3.size;rwa [World.size_alloc] at h)))
      |(at_builtin;go_loud (refine wpList_append_lies _ rfl _ _ 36 rfl (w0.heap.size) 80 i0 (.agg #[.int .u64 0,.slice none 0 0]) 2 32 Tryz.underlying36 hi hz0 hz1 hz2 rfl (by decide) (.slice (some ⟨g1,0,none⟩) (c+1) cap1) (c+1) _ rfl (hown3.alloc _) ⟨w3.heap.size,0,none⟩ 1 1 ([.int .u64 xt,.slice xa xn xc]) rfl rfl (World.news_of_block (cs:=([.int .u64 xt,.slice xa xn xc]).toArray) (t:=80) (fr:=(0,0)) (heap_alloc_new w3 _)) (by simp [Value.oneCell']) (by omega) (by unfold maxLen;omega) (by omega) (by simp;omega) (w3.heap.size+1) (by simp) ?_);intro g2 cap2 w4 hown4 hgrow4 hfresh4 hlt4))
     go_roundw
     case rel=>
      have hfb:Fr (fun j=>(Value.slice (some ⟨g1,0,none⟩) (c+1) cap1).ownBlock=some j) _ w4:=(Fr.refl _ _).grown hgrow4 fun j e=>.inl e
      exact⟨k+1,c+1+1,true,os ++ [te] ++ [xe],by omega,by go_num,rfl,hhd (by rw[HL'.out,HTS.out,anyC_snoc,HP.out,HT.out,HXT.out];simp [htx]),by have:=hck.out;omega,hhd (by rw[HL'.out,HTS.out,layO_new HP.out (by rw[HT.out,HXT.out];exact htx),HO.out]),hhd (by rw[HCL.out];simp),hhd (by rw[List.flatMap_append,List.flatMap_append];simp only [List.flatMap_cons,List.flatMap_nil,List.append_nil,HXN.out,HEN.out];exact hown4),((((HFR.out.then0 HFD.out).alloc _).trans hfa3 fun j hj=>.inr (by have:=(ownsRow_lt hrd _ hj).1;omega)).alloc _).trans hfb fun j hj=>.inr (by have:=(ownsRow_lt hown3 _ hj).1;omega)⟩
     case measure=>simp [intOf];omega
    ·go_wp2_with fail
     go_quiet (fail)
     obtain⟨wd,hwd⟩:∃ wd,wr.drewN nq=wd:=⟨_,rfl⟩
     have hfd:Fr N0 wr wd:=by rw[← hwd];exact(Fr.refl N0 wr).drewN _
     have hrd:wd.ownsRow w0.heap.size 80 2 (.slice oa c oc) c (os.flatMap CmV.enc):=hrw.fr0 hfd
     have d1:=hfd.cell id e1
     have d2:=hfd.cell id e2
     have hzd:=hfd.size
     obtain⟨mD,nD,lD⟩:=box_cells ((hfd.at (k:=w.heap.size) id (by omega)).trans hBr)
     have HFD:=hhd hfd
     rw[hwd]
     clear hwd e1 e2 mB nB lB hfd
     go_wp2_with (at_builtin;go_loud (refine wpList_append_lies _ rfl _ _ 36 rfl (w0.heap.size) 80 i0 (.agg #[.int .u64 0,.slice none 0 0]) 2 32 Tryz.underlying36 hi hz0 hz1 hz2 rfl (by decide) (.slice oa c oc) (c) _ rfl (hrd.alloc _) ⟨wd.heap.size,0,none⟩ 1 1 ([.int .u64 xt,.slice xa xn xc]) rfl rfl (World.news_of_block (cs:=([.int .u64 xt,.slice xa xn xc]).toArray) (t:=80) (fr:=(0,0)) (heap_alloc_new wd _)) (by simp [Value.oneCell']) (by omega) (by unfold maxLen;omega) (by omega) (by simp;omega) (wd.heap.size+1) (by simp) ?_);intro g1 cap1 w3 hown3 hgrow3 hfresh3 hlt3)
     go_roundw
     case rel=>
      have hfa:Fr (fun j=>(Value.slice oa c oc).ownBlock=some j) _ w3:=(Fr.refl _ _).grown hgrow3 fun j e=>.inl e
      exact⟨k+1,c+1,false,os ++ [xe],by omega,by go_num,rfl,hhd (by rw[HL'.out,HTS.out,anyC_snoc,HP.out,HT.out,HXT.out];simp [htx]),by omega,hhd (by rw[HL'.out,HTS.out,layO_old HP.out (by rw[HT.out,HXT.out];omega),HO.out]),hhd (by rw[HCL.out];simp),hhd (by rw[List.flatMap_append];simp only [List.flatMap_cons,List.flatMap_nil,List.append_nil,HXN.out];exact hown3),((HFR.out.then0 HFD.out).alloc _).trans hfa fun j hj=>.inr (by have:=(ownsRow_lt hrd _ hj).1;omega)⟩
     case measure=>simp [intOf];omega
  ·obtain rfl:k=n:=by omega
   have hki:¬(k:Int) < (k:Int):=by omega
   have hfull:xs.take k=xs:=by rw[← HN.out,List.take_length]
   have hpo:=hp.out;have hoo:=ho.out
   rw[hfull] at hpo hoo
   have HP:=hhd hpo;have HO:=hhd hoo;have HCL:=hhd hcl.out;have HFR:=hhd hfr.out
   have hrw:=hrow.out
   clear hp ho hpo hoo hfull hrow hcl hfr
   cases p with
   | true=>
    have hres:os=layC te xs:=by rw[HO.out];unfold layO;rw[if_pos HP.out]
    have HRES:=hhd hres
    clear hres
    go_wp2
    exact HPOST.out _ _ c (by rw[HCL.out,HRES.out]) (by rw[← HRES.out];exact hrw) HFR.out
   | false=>
    have hres:layC te xs=os ++ [te]:=by rw[HO.out,layO_no HP.out,layC_none HP.out]
    have HRES:=hhd hres
    clear hres
    go_wp2_with (at_builtin;go_loud (refine wpList_append_lies _ rfl _ _ 36 rfl (w0.heap.size) 80 i0 (.agg #[.int .u64 0,.slice none 0 0]) 2 32 Tryz.underlying36 hi hz0 hz1 hz2 rfl (by decide) (.slice oa c oc) (c) _ rfl (hrw.alloc _) ⟨wr.heap.size,0,none⟩ 1 1 ([.int .u64 tt,.slice ta tn tc]) rfl rfl (World.news_of_block (cs:=([.int .u64 tt,.slice ta tn tc]).toArray) (t:=80) (fr:=(0,0)) (heap_alloc_new wr _)) (by simp [Value.oneCell']) (by omega) (by unfold maxLen;omega) (by omega) (by simp;omega) (wr.heap.size+1) (by simp) ?_);intro g1 cap1 w3 hown3 hgrow3 hfresh3 hlt3)
    have hfa:Fr (fun j=>(Value.slice oa c oc).ownBlock=some j) _ w3:=(Fr.refl _ _).grown hgrow3 fun j e=>.inl e
    refine HPOST.out _ _ (c+1) (by rw[HRES.out,HCL.out];simp) ?_ ((HFR.out.alloc _).trans hfa fun j hj=>.inr (by have:=(ownsRow_lt hrw _ hj).1;omega))
    rw[HRES.out,List.flatMap_append]
    simp only [List.flatMap_cons,List.flatMap_nil,List.append_nil,HEN.out]
    exact hown3
theorem r18New_any(w:World)(s:Sch):Calls Tryz.prog 77 #[.agg s.enc.toArray] w fun e w'=>
  ((schMay s=0∧∃ p,e = .returned (.tuple #[.pointer (some ⟨p,0,none⟩),.int .i64 0])∧w.heap.size≤p∧IsXL w' (fun k=>k=p) p { s:=s })∨(schMay s≠0∧e = .returned (.tuple #[.pointer none,.int .i64 (schMay s)])))∧Fr N0 w w':=by
 have hS:=fun W=>r4Schema_any s W
 obtain⟨sp,st,sl,se,sm,so,sr,sc⟩:=s
 unfold Sch.enc at hS ⊢
 simp only at hS ⊢
 obtain⟨M,hM⟩:∃ M,schMay ⟨sp,st,sl,se,sm,so,sr,sc⟩=M:=⟨_,rfl⟩
 rw[hM]
 simp only [hM] at hS
 have HS:=hhd hS
 clear hS hM
 by_cases h0:M=0
 ·subst h0
  go_enter Tryz.func77,Tryz.ntmps77
  go_wp2_with fail
  refine(HS.out _).mono ?_
  rintro e w1 ⟨rfl,hf1⟩
  have hb:=hf1.at (k:=w.heap.size) id (by simp) |>.trans (World.alloc_heap_new w _)
  obtain⟨mb,nb,lb⟩:=box_cells hb
  have HF:=hhd hf1
  clear hf1 hb
  go_wp2
  go_ret2
  have hfr:=((Fr.refl N0 w).alloc (.cells #[.string sp,.int .u8 st,.bool sl,.bool se,.bool sm,.bool so,.bool sr,.bool sc] 32)).then0 HF.out
  refine⟨.inl ⟨trivial,w1.heap.size,rfl,by have:=hfr.size;omega,⟨_,_,[],World.alloc_heap_new w1 _,rfl,⟨World.ownsRow_nil _ _ _ _,fun k hk=>by cases hk⟩,⟨World.ownsRow_nil _ _ _ _,rfl,fun k hk=>by cases hk⟩,fun i h=>by simp at h⟩⟩,hfr.alloc _⟩
 ·go_enter Tryz.func77,Tryz.ntmps77
  go_wp2_with fail
  refine(HS.out _).mono ?_
  rintro e w1 ⟨rfl,hf1⟩
  have HF:=hhd hf1
  clear hf1
  go_wp2
  go_ret2
  exact⟨.inr ⟨h0,rfl⟩,((Fr.refl N0 w).alloc _).then0 HF.out⟩
end
end Go.Proofs.YtefepfiijoafbaaGreat
