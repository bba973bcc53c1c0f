/- XVals XVals2 XUids -/
import Derived.Deep.DrawnRows
import Derived.Deep.RegionHeld3
import Derived.Test.YtefepfiijoafbaaGreatQR3SortT
import Derived.Test.YtefepfiijoafbaaGreatQBeh3
set_option linter.unusedVariables false
set_option linter.unusedSimpArgs false
set_option maxRecDepth 100000
set_option maxHeartbeats 8000000
namespace Go.Proofs.YtefepfiijoafbaaGreat
section
open Go.RowKit Go.Shelf Go.Maps
attribute [local go_sem] Oper.semAt_some
attribute [local go_sem ↓] Go.wp_at_zero Go.wp_at_succ
attribute [local irreducible] wpQuiet
theorem haveOf_step(list:Bool)(A:List Wr)(x:Wr)(u:Int):haveOf list (A ++ [x]) u=if x.uid=u then wrV (haveOf list A u) x list else haveOf list A u:=by
 rw[haveOf_snoc]
 unfold hWrite
 by_cases e:x.uid=u
 ·subst e;rw[if_pos rfl,updV_same]
 ·rw[if_neg e,updV_other fun h=>e h.symm]
def KpX(l:List Nat)(f f':Nat→Value):Prop:=∀ i ∈ l,f' i=f i
theorem kpX_mk{l:List Nat}{f f':Nat→Value}(h:l.map f'=l.map f):KpX l f f':=List.map_inj_left.1 h
noncomputable def xvB(n:Nat):Code:=lvSuf n ((Tryz.f144.body).getD .skip)
def srThen:Code→Code
 | .cond _ a _=>a
 | c=>c
noncomputable def xvI:Code:=srIn (lvFst (srSnd (srLoop (srIn (srSnd (lvFst (xvB 2)))))))
noncomputable def xvK:Code:=srIn (lvFst (srSnd (srLoop (srIn (srSnd (srSnd xvI))))))
abbrev XH(p bc o b q:Nat)(ls:Bool)(a wa:Option Addr)(n cap wn wc:Nat)(x:Wr)(W:World):Prop:=
 W.cell? ⟨p,2,none⟩=some (.bool ls)∧W.cell? ⟨p,10,none⟩=some (.slice a n cap)∧W.cell? ⟨bc,o+1,none⟩=some (.slice wa wn wc) ∧
 W.cell? ⟨b,q,none⟩=some (.bool x.del)∧W.cell? ⟨b,q+1,none⟩=some (.int .u64 x.uid)∧W.cell? ⟨b,q+2,none⟩=some (.string x.pred)∧W.cell? ⟨b,q+3,none⟩=some (.int .u8 x.val.k) ∧
 W.cell? ⟨b,q+4,none⟩=some (.bool x.val.b)∧W.cell? ⟨b,q+5,none⟩=some (.int .i64 x.val.n)∧W.cell? ⟨b,q+6,none⟩=some (.string x.val.s)∧W.cell? ⟨b,q+7,none⟩=some (.int .u64 x.val.u)
theorem xh_fr{p bc o b q:Nat}{ls:Bool}{a wa:Option Addr}{n cap wn wc:Nat}{x:Wr}{W W':World}(hf:Fr N0 W W')(h:XH p bc o b q ls a wa n cap wn wc x W):XH p bc o b q ls a wa n cap wn wc x W':=by
 obtain⟨h1,h2,h3,h4,h5,h6,h7,h8,h9,h10,h11⟩:=h
 exact⟨hf.cell id h1,hf.cell id h2,hf.cell id h3,hf.cell id h4,hf.cell id h5,hf.cell id h6,hf.cell id h7,hf.cell id h8,hf.cell id h9,hf.cell id h10,hf.cell id h11⟩
theorem xvR10{K:Act→World→Prop}{Q:Exit→Act→World→Prop}(W:World)(f:Nat→Value)(p bc off b woff i j n cap wn wc:Nat)(ls:Bool)(ov:Value)(x:Wr)(P:Value→World→Prop)
  (h0:f 0 = .pointer (some ⟨p,0,none⟩)) (h7:f 7=ov) (h8:f 8 = .int .i64 i) (h9:f 9 = .int .i64 j) (hi:i < n) (hj:j < wn)
  (hx:XH p bc (off+i * 2) b (woff+j * 8) ls (some ⟨bc,off,none⟩) (some ⟨b,woff,none⟩) n cap wn wc x W)
  (hB:∀ W',Fr N0 W W'→Calls Tryz.prog 205 #[ov,.agg x.enc.toArray,.bool ls] W' fun e w'=>∃ v',e = .returned v'∧P v' w'∧Fr N0 W' w')
  (hK:∀ f' W' v',KpX [0,1,2,3,4,5,6,8,9,10,11,12,13,14,15,16,17,18,19,20,21,22,23,24,25,26,27,28,75] f f'→f' 7=v'→P v' W'→Fr N0 W W'→K (frA 76 f') W') :
  Code.wp Tryz.prog (srThen (srSnd xvK)) (Exit.then K Q) (frA 76 f) W:=by
 obtain⟨xd,xu,xp,yk,yb,yn,ys,yu⟩:=x
 simp only [Wr.enc] at hB
 have HB:=hhd hB;have HK:=hhd hK
 have HX:=hhd (xh_fr (Fr.refl N0 W).drew hx)
 obtain⟨e1,e2,e3,e4,e5,e6,e7,e8,e9,e10,e11⟩:=hx
 have hi1:(i:Int) < (n:Int):=by omega
 have hj1:(j:Int) < (wn:Int):=by omega
 have hi0:(0:Int)≤(i:Int):=by omega
 have hj0:(0:Int)≤(j:Int):=by omega
 have HKP:Hid ([0,1,2,3,4,5,6,8,9,10,11,12,13,14,15,16,17,18,19,20,21,22,23,24,25,26,27,28,75].map f = [.pointer (some ⟨p,0,none⟩),f 1,f 2,f 3,f 4,f 5,f 6,.int .i64 i,.int .i64 j,f 10,f 11,f 12,f 13,f 14,f 15,f 16,f 17,f 18,f 19,f 20,f 21,f 22,f 23,f 24,f 25,f 26,f 27,f 28,f 75]):=by
  show[f 0,f 1,f 2,f 3,f 4,f 5,f 6,f 8,f 9,f 10,f 11,f 12,f 13,f 14,f 15,f 16,f 17,f 18,f 19,f 20,f 21,f 22,f 23,f 24,f 25,f 26,f 27,f 28,f 75]=_
  rw[h0,h8,h9]
 clear hB hK
 show Code.wp _ _ _ { tmps:=#[f 0,f 1,f 2,f 3,f 4,f 5,f 6,f 7,f 8,f 9,f 10,f 11,f 12,f 13,f 14,f 15,f 16,f 17,f 18,f 19,f 20,f 21,f 22,f 23,f 24,f 25,f 26,f 27,f 28,f 29,f 30,f 31,f 32,f 33,f 34,f 35,f 36,f 37,f 38,f 39,f 40,f 41,f 42,f 43,f 44,f 45,f 46,f 47,f 48,f 49,f 50,f 51,f 52,f 53,f 54,f 55,f 56,f 57,f 58,f 59,f 60,f 61,f 62,f 63,f 64,f 65,f 66,f 67,f 68,f 69,f 70,f 71,f 72,f 73,f 74,f 75],defers:=[] } _
 rw[h0,h7,h8,h9]
 clear h0 h7 h8 h9
 conv=>arg 2;whnf
 go_region_held3 (XH p bc (off+i * 2) b (woff+j * 8) ls (some ⟨bc,off,none⟩) (some ⟨b,woff,none⟩) n cap wn wc ⟨xd,xu,xp,yk,yb,yn,ys,yu⟩) (first
  |(with_reducible assumption)
  |(with_reducible exact HX.out)
  |(with_reducible exact hb3)
  | fail) (first
  |(go_simp;go_at_call 205;(refine(HB.out _ (Fr.refl N0 W).drew).mono ?_;rintro e w3 ⟨v3,rfl,hp3,hf3⟩;have hb3:=xh_fr hf3 HX.out))
  | fail)
 all_goals
  refine cut_use (n:=76) (K:=K) _ rfl ?_
  exact HK.out _ _ _ (kpX_mk (Eq.trans rfl HKP.out.symm)) rfl hp3 ((Fr.refl N0 W).drew.then0 hf3)
end
section
open Go.RowKit Go.Shelf Go.Maps
attribute [local go_sem] Oper.semAt_some
attribute [local irreducible] wpQuiet
def upTo(l:PL)(t:Int)(i:Nat):List Wr:=wsOf ((l.commits.take i).filter fun c=>decide (c.time≤t))
theorem upTo_succ{l:PL}{t:Int}{i:Nat}(h:i < l.commits.length):upTo l t (i+1)=if l.commits[i].time≤t then upTo l t i ++ l.commits[i].writes else upTo l t i:=by
 unfold upTo wsOf
 rw[List.take_succ_eq_append_getElem h,List.filter_append,List.flatMap_append]
 by_cases hc:l.commits[i].time≤t
 ·simp [hc]
 ·simp [hc]
theorem upTo_sub{l:PL}{t:Int}{i:Nat}{x:Wr}(h:x ∈ upTo l t i):x ∈ wsOf l.commits:=by
 unfold upTo wsOf at *
 obtain⟨c,hc,hx⟩:=List.mem_flatMap.1 h
 exact List.mem_flatMap.2 ⟨c,List.mem_of_mem_take (List.mem_filter.1 hc).1,hx⟩
theorem wsOf_sub_len{xs ys:List Cm}(h:xs.Sublist ys):(wsOf xs).length≤(wsOf ys).length:=by
 induction h with
 | slnil=>exact Nat.le_refl _
 | cons c h ih=>
  have e:∀ l:List Cm,(wsOf (c :: l)).length=c.writes.length+(wsOf l).length:=fun l=>by unfold wsOf;rw[List.flatMap_cons,List.length_append]
  rw[e];omega
 | cons_cons c h ih=>
  have e:∀ l:List Cm,(wsOf (c :: l)).length=c.writes.length+(wsOf l).length:=fun l=>by unfold wsOf;rw[List.flatMap_cons,List.length_append]
  rw[e,e];omega
theorem upTo_len(l:PL)(t:Int)(i:Nat):(upTo l t i).length≤(wsOf l.commits).length:=
 wsOf_sub_len ((List.filter_sublist).trans (List.take_sublist i l.commits))
theorem xvals_any(W:World)(p:Nat)(l:PL)(a:Option Addr)(bc off cap N:Nat)(h:XRead W p l a bc off cap)(hl:l.AtOk N)(hN:N≤900000000)(u t:Int) :
  Calls Tryz.prog 144 #[.pointer (some ⟨p,0,none⟩),.int .u64 u,.int .u64 t] W fun e w'=>∃ v',e = .returned v'∧VRow w' W.heap.size v' (valsAt l u t)∧Fr N0 W w':=by
 obtain⟨n,hn⟩:∃ n,l.commits.length=n:=⟨_,rfl⟩
 obtain⟨ls,hls⟩:∃ ls,l.s.list=ls:=⟨_,rfl⟩
 have hfin:valsAt l u t=haveOf ls (upTo l t n) u:=by
  unfold valsAt upTo
  rw[hls,← hn,List.take_length]
 have c10:=h.cm;have c2:=h.list;have hnz:=h.nz
 rw[hn] at c10 hnz
 rw[hls] at c2
 have hn9:n≤900000000:=by have:=hl.commits;omega
 have hbeh:∀ (A:List Wr) (x:Wr) (W1:World) (ov:Value),(∀ y ∈ A,WrOk y)→A.length≤900000000→WrOk x→W.heap.size≤W1.heap.size→VRow W1 W.heap.size ov (haveOf ls A u) →
   Calls Tryz.prog 205 #[ov,.agg x.enc.toArray,.bool ls] W1 fun e w'=>∃ v',e = .returned v'∧VRow w' W.heap.size v' (wrV (haveOf ls A u) x ls)∧Fr N0 W1 w':=fun A x W1 ov hA hAl hx hz hV=>by
  have hok:=haveOf_ok ls hA
  obtain⟨b,-,hr⟩:=hV.toRows
  refine(r18Behind_any W1 b ov _ hr (Nat.le_trans (hok.len u) (by omega)) (fun y hy=>((hok.ok u).may y hy).1) (hok.ok u).rises x hx.may ls).mono fun e w' hh=>?_
  obtain⟨v',e1,h2,h3⟩:=hh
  exact⟨v',e1,h2.base hz,h3⟩
 have HX:=hhd h;have HBH:=hhd hbeh;have HFIN:=hhd hfin;have HNL:=hhd hn;have HNZ:=hhd hnz;have HL:=hhd hl
 have HC:=hhd (And.intro c10 c2)
 obtain⟨G,hG⟩:∃ G,valsAt l u t=G:=⟨_,rfl⟩
 rw[hG] at HFIN ⊢
 clear h hbeh hfin hn hls hG hnz hl c2
 go_enter Tryz.func144,Tryz.ntmps144
 go_wp2
 go_loopw [7,8] (fun ov iv wr=>∃ i:Nat,i≤n∧iv = .int .i64 i∧Hid (VRow wr W.heap.size ov (haveOf ls (upTo l t i) u))∧Hid (Fr N0 W wr)) (fun _ iv _=>n - (intOf iv).toNat)
 case atStart=>exact⟨0,Nat.zero_le _,rfl,World.ownsRow_nil _ _ _ _,Fr.refl _ _⟩
 case round=>
  obtain⟨i,hi,rfl,hV,hfr⟩:=hrel
  have c10r:=hfr.out.cell id HC.out.1
  by_cases hlt:i < n
  ·have hil:i < l.commits.length:=by rw[HNL.out];exact hlt
   obtain rfl:=HNZ.out (by omega)
   obtain⟨wa,wc,bw,x0,x1,hw⟩:=(HX.out.fr hfr.out).cs i hil
   have hsuc:=upTo_succ (t:=t) hil
   have hcm:∀ y ∈ l.commits[i].writes,WrOk y:=fun y hy=>HL.out.ok y (by unfold wsOf;exact List.mem_flatMap.2 ⟨_,List.getElem_mem hil,hy⟩)
   obtain⟨⟨ct,ws⟩,hc⟩:∃ c,l.commits[i]=c:=⟨_,rfl⟩
   have hcl:l.commits[i].time≤t→(upTo l t i).length+l.commits[i].writes.length≤N:=fun hle=>by
    have h1:=upTo_len l t (i+1)
    rw[hsuc,if_pos hle,List.length_append] at h1
    exact Nat.le_trans h1 HL.out.len
   rw[hc] at x0 x1 hw hsuc hcm hcl
   simp only at x0 x1 hw hsuc hcm hcl
   have hi1:(i:Int) < (n:Int):=by omega
   obtain⟨nw,hnw⟩:∃ k,ws.length=k:=⟨_,rfl⟩
   have HNW:=hhd hnw;have HSUC:=hhd hsuc;have HCM:=hhd hcm;have HCL:=hhd hcl
   have HV:=hhd hV.out;have HFR:=hhd hfr.out
   rw[hnw] at x1 hw
   obtain⟨wa',woff,wcap,he,w1,w2,w3,-,w5⟩:=hw
   injection he with q1 q2 q3
   subst q1 q3
   rw[hnw] at w1 w3
   have HW5:=hhd w5
   clear w5 hnw hsuc hcm hcl hV hfr hc q2
   by_cases hct:t < ct
   ·have hs:upTo l t (i+1)=upTo l t i:=by rw[HSUC.out,if_neg (by omega)]
    have HS:=hhd hs
    clear hs
    go_wp2
    go_roundw
    case rel=>exact⟨i+1,by omega,by go_num,hhd (by rw[HS.out];exact HV.out),HFR.out⟩
    case measure=>simp [intOf];omega
   ·have hs:upTo l t (i+1)=upTo l t i ++ ws:=by rw[HSUC.out,if_pos (by omega)]
    have hcl:=HCL.out (by omega)
    have HS:=hhd hs;have HCL2:=hhd hcl
    have hnw9:nw≤900000000:=by have:=HNW.out;omega
    obtain⟨w8,hw8⟩:∃ w8,w8=wr:=⟨_,rfl⟩
    subst hw8
    clear hs hcl HSUC HCL
    go_wp2
    go_loopw [7,9] (fun ov jv w2=>∃ j:Nat,j≤nw∧jv = .int .i64 j∧Hid (VRow w2 W.heap.size ov (haveOf ls (upTo l t i ++ ws.take j) u))∧Hid (Fr N0 w8 w2)) (fun _ jv _=>nw - (intOf jv).toNat)
    case atStart=>exact⟨0,Nat.zero_le _,by first | rfl | go_num,hhd (by simpa using HV.out),Fr.refl _ _⟩
    case round=>
     obtain⟨j,hj,rfl,hV2,hfr2⟩:=hrel
     have g10:=hfr2.out.cell id c10r;have gx1:=hfr2.out.cell id x1;have g2:=hfr2.out.cell id (HFR.out.cell id HC.out.2)
     by_cases hjn:j < nw
     ·obtain rfl:=w3 (by omega)
      have hjl:j < ws.length:=by rw[HNW.out];exact hjn
      obtain⟨d0,d1,d2,d3,d4,d5,d6,d7⟩:=wr_cells (W:=w8) (HW5.out j hjl)
      have hx:=HCM.out ws[j] (List.getElem_mem hjl)
      have hts:=List.take_succ_eq_append_getElem hjl
      obtain⟨x,hxe⟩:∃ x,ws[j]=x:=⟨_,rfl⟩
      rw[hxe] at d0 d1 d2 d3 d4 d5 d6 d7 hx hts
      replace d0:=hfr2.out.cell id d0;replace d1:=hfr2.out.cell id d1;replace d2:=hfr2.out.cell id d2;replace d3:=hfr2.out.cell id d3
      replace d4:=hfr2.out.cell id d4;replace d5:=hfr2.out.cell id d5;replace d6:=hfr2.out.cell id d6;replace d7:=hfr2.out.cell id d7
      have hstep:=haveOf_step ls (upTo l t i ++ ws.take j) x u
      rw[List.append_assoc,← hts] at hstep
      have HST:=hhd hstep;have HX8:=hhd hx;have HV2:=hhd hV2.out;have HFR2:=hhd hfr2.out
      have hj1:(j:Int) < (nw:Int):=by omega
      have HXH:=hhd (show XH p bc (off+i * 2) bw (woff+j * 8) ls (some ⟨bc,off,none⟩) (some ⟨bw,woff,none⟩) n cap nw wc x _ from⟨g2,g10,gx1,d0,d1,d2,d3,d4,d5,d6,d7⟩)
      clear d0 d2 d3 d4 d5 d6 d7 hxe hx hts hstep hV2 hfr2
      by_cases hu:x.uid=u
      ·have hd1:=d1
       rw[hu] at hd1
       have HU:=hhd hu
       clear d1 hu
       have hA:∀ y ∈ upTo l t i ++ ws.take j,WrOk y:=fun y hy=>by
        rcases List.mem_append.1 hy with h | h
        ·exact HL.out.ok y (upTo_sub h)
        ·exact HCM.out y (List.mem_of_mem_take h)
       have hAl:(upTo l t i ++ ws.take j).length≤900000000:=by
        rw[List.length_append,List.length_take]
        have:=HCL2.out
        omega
       have HA:=hhd hA;have HAL:=hhd hAl
       have hz8:W.heap.size≤_:=(HFR.out.then0 HFR2.out).size
       have HZ8:=hhd hz8
       clear hA hAl hz8
       go_wp2_with fail
       rename_i Ka hKa Kb hKb Kc hKc
       refine wp_frA (n:=76) _ rfl ?_
       refine wp_inBS (xvR10 (K:=Kc) _ _ p bc off bw woff i j n cap nw wc ls _ x (fun v' w'=>VRow w' W.heap.size v' (wrV (haveOf ls (upTo l t i ++ ws.take j) u) x ls)) rfl rfl rfl rfl hlt hjn HXH.out (fun W' hW'=>?_) fun f' W' v' kp e7 hP hF=>?_)
       ·exact HBH.out _ x W' _ HA.out HAL.out HX8.out (Nat.le_trans HZ8.out hW'.size) (HV2.out.fr hW' fun _ _ h=>h)
       ·refine hKc _ _ ?_
        have z0:=kp 0 (by decide);have z1:=kp 1 (by decide);have z2:=kp 2 (by decide);have z3:=kp 3 (by decide);have z4:=kp 4 (by decide);have z5:=kp 5 (by decide);have z6:=kp 6 (by decide);have z8:=kp 8 (by decide);have z9:=kp 9 (by decide);have z10:=kp 10 (by decide);have z11:=kp 11 (by decide);have z12:=kp 12 (by decide);have z13:=kp 13 (by decide);have z14:=kp 14 (by decide);have z15:=kp 15 (by decide);have z16:=kp 16 (by decide);have z17:=kp 17 (by decide);have z18:=kp 18 (by decide);have z19:=kp 19 (by decide);have z20:=kp 20 (by decide);have z21:=kp 21 (by decide);have z22:=kp 22 (by decide);have z23:=kp 23 (by decide);have z24:=kp 24 (by decide);have z25:=kp 25 (by decide);have z26:=kp 26 (by decide);have z27:=kp 27 (by decide);have z28:=kp 28 (by decide);have z75:=kp 75 (by decide)
        have HP:=hhd hP;have HF:=hhd hF
        clear kp hP hF hKc
        obtain⟨f,hf⟩:∃ f,f=f':=⟨_,rfl⟩
        subst hf
        show Code.wp _ _ _ { tmps:=#[f 0,f 1,f 2,f 3,f 4,f 5,f 6,f 7,f 8,f 9,f 10,f 11,f 12,f 13,f 14,f 15,f 16,f 17,f 18,f 19,f 20,f 21,f 22,f 23,f 24,f 25,f 26,f 27,f 28,f 29,f 30,f 31,f 32,f 33,f 34,f 35,f 36,f 37,f 38,f 39,f 40,f 41,f 42,f 43,f 44,f 45,f 46,f 47,f 48,f 49,f 50,f 51,f 52,f 53,f 54,f 55,f 56,f 57,f 58,f 59,f 60,f 61,f 62,f 63,f 64,f 65,f 66,f 67,f 68,f 69,f 70,f 71,f 72,f 73,f 74,f 75],defers:=[] } _
        rw[z0,z1,z2,z3,z4,z5,z6,e7,z8,z9,z10,z11,z12,z13,z14,z15,z16,z17,z18,z19,z20,z21,z22,z23,z24,z25,z26,z27,z28,z75]
        clear z0 z1 z2 z3 z4 z5 z6 e7 z8 z9 z10 z11 z12 z13 z14 z15 z16 z17 z18 z19 z20 z21 z22 z23 z24 z25 z26 z27 z28 z75
        go_wp2_with fail
        exact⟨⟨j+1,by omega,by first | rfl | go_num,hhd (by rw[HST.out,if_pos HU.out];exact HP.out),HFR2.out.then0 HF.out⟩,by simp [intOf];omega⟩
      ·have HU:=hhd hu
       go_wp2
       go_roundw
       case rel=>exact⟨j+1,by omega,by go_num,hhd (by rw[HST.out,if_neg HU.out];exact HV2.out),HFR2.out⟩
       case measure=>simp [intOf];omega
     ·obtain rfl:j=nw:=by omega
      have hfull:ws.take j=ws:=by rw[← HNW.out,List.take_length]
      have hV3:=hV2.out
      rw[hfull,← HS.out] at hV3
      have HV3:=hhd hV3;have HFR2:=hhd hfr2.out
      clear hV3 hfull hV2 hfr2
      have hj1:¬(j:Int) < (j:Int):=by omega
      go_wp2
      go_roundw
      case rel=>exact⟨i+1,by omega,by go_num,HV3.out,HFR.out.then0 HFR2.out⟩
      case measure=>simp [intOf];omega
  ·obtain rfl:i=n:=by omega
   have hV3:=hV.out
   rw[← HFIN.out] at hV3
   have HV3:=hhd hV3;have HFR2:=hhd hfr.out
   clear hV3 hV hfr
   have hi1:¬(i:Int) < (i:Int):=by omega
   go_wp2
   go_ret
   exact⟨_,rfl,HV3.out,HFR2.out⟩
theorem xValues_any(W:World)(p:Nat)(l:PL)(a:Option Addr)(bc off cap N:Nat)(h:XRead W p l a bc off cap)(hl:l.AtOk N)(hN:N≤900000000)(hr:RisesBy Cm.time l.commits)(u t:Int) :
  Calls Tryz.prog 90 #[.pointer (some ⟨p,0,none⟩),.int .u64 u,.int .u64 t] W fun e w'=>∃ v',e = .returned v'∧VRow w' W.heap.size v' (haveAt l t u)∧Fr N0 W w':=by
 have hv:=xvals_any W p l a bc off cap N h hl hN u t
 have hm:=h.marked
 by_cases ht:t < l.marked
 ·have e:haveAt l t u = []:=by unfold haveAt;rw[if_pos ht]
  rw[e]
  obtain⟨mk,hmk⟩:∃ mk,l.marked=mk:=⟨_,rfl⟩
  rw[hmk] at hm ht
  clear hv h hl hr e hmk
  go_enter Tryz.func90,Tryz.ntmps90
  go_wp2
  (try go_ret)
  exact⟨_,rfl,World.ownsRow_nil _ _ _ _,Fr.refl _ _⟩
 ·rw[← valsAt_have hr u t ht]
  obtain⟨G,hG⟩:∃ G,valsAt l u t=G:=⟨_,rfl⟩
  rw[hG] at hv ⊢
  obtain⟨mk,hmk⟩:∃ mk,l.marked=mk:=⟨_,rfl⟩
  rw[hmk] at hm ht
  have HV:=hhd hv
  clear hv h hl hr hG hmk
  go_enter Tryz.func90,Tryz.ntmps90
  go_wp2_with fail
  refine HV.out.mono ?_
  rintro e w1 ⟨v',rfl,hV,hf⟩
  have HR:=hhd hV;have HF:=hhd hf
  clear hV hf
  go_wp2_with fail
  (try go_ret)
  exact⟨_,rfl,HR.out,HF.out⟩
def uidIn(xs:List Int)(u:Int):List Int:=if u ∈ xs then xs else insBy id u xs
def uidsW(ws:List Wr):List Int:=ws.foldl (fun xs x=>uidIn xs x.uid) []
theorem uidsW_snoc(ws:List Wr)(x:Wr):uidsW (ws ++ [x])=uidIn (uidsW ws) x.uid:=by unfold uidsW;rw[List.foldl_append];rfl
theorem uidIn_mem{xs:List Int}{u y:Int}:y ∈ uidIn xs u↔y=u∨y ∈ xs:=by
 unfold uidIn
 split
 ·rename_i h
  constructor
  ·exact .inr
  ·rintro(rfl | h')
   ·exact h
   ·exact h'
 ·exact insBy_mem
theorem uidIn_rises{xs:List Int}{u:Int}(h:RisesBy id xs):RisesBy id (uidIn xs u):=by
 unfold uidIn
 split
 ·exact h
 ·rename_i hn
  exact insBy_rises h fun y hy e=>hn (by have:y=u:=e;exact this ▸ hy)
theorem uidsW_all(ws:List Wr):RisesBy id (uidsW ws)∧(∀ u,u ∈ uidsW ws↔∃ x ∈ ws,x.uid=u)∧(uidsW ws).length≤ws.length:=by
 refine list_snoc (C:=fun ws=>RisesBy id (uidsW ws)∧(∀ u,u ∈ uidsW ws↔∃ x ∈ ws,x.uid=u)∧(uidsW ws).length≤ws.length) ⟨List.Pairwise.nil,fun u=>by simp [uidsW],Nat.le_refl _⟩ (fun ws x ih=>?_) ws
 obtain⟨h1,h2,h3⟩:=ih
 rw[uidsW_snoc]
 refine⟨uidIn_rises h1,fun u=>?_,?_⟩
 ·rw[uidIn_mem,h2]
  constructor
  ·rintro(rfl | ⟨y,hy,e⟩)
   ·exact⟨x,by simp,rfl⟩
   ·exact⟨y,List.mem_append_left _ hy,e⟩
  ·rintro⟨y,hy,e⟩
   rcases List.mem_append.1 hy with hy | hy
   ·exact .inr ⟨y,hy,e⟩
   ·rw[List.mem_singleton.1 hy] at e;exact .inl e.symm
 ·unfold uidIn
  split
  ·simp;omega
  ·have:(insBy id x.uid (uidsW ws)).length=(uidsW ws).length+1:=by
    have:∀ (a:Int) (L:List Int),(insBy id a L).length=L.length+1:=fun a L=>by
     induction L with
     | nil=>rfl
     | cons y L ih=>
      unfold insBy
      split
      ·simp
      ·simp [ih]
    exact this _ _
   simp;omega
theorem xuids_any(W:World)(p:Nat)(l:PL)(a:Option Addr)(bc off cap N:Nat)(h:XRead W p l a bc off cap)(hl:l.AtOk N)(hN:N≤900000000) :
  Calls Tryz.prog 180 #[.pointer (some ⟨p,0,none⟩)] W fun e w'=>∃ v' b',e = .returned v'∧Ints .u64 w' b' v' (uidsW (wsOf l.commits))∧Fr N0 W w':=by
 obtain⟨n,hn⟩:∃ n,l.commits.length=n:=⟨_,rfl⟩
 have c10:=h.cm;have hnz:=h.nz
 rw[hn] at c10 hnz
 have hn9:n≤900000000:=by have:=hl.commits;omega
 have hrise:∀ (A:List Wr) (x:Wr) (W1:World) (b1:Nat) (ov:Value),A.length≤900000000→WrOk x→Ints .u64 W1 b1 ov (uidsW A) →
   Calls Tryz.prog 178 #[ov,.int .u64 x.uid] W1 fun e w'=>∃ v' b',e = .returned v'∧Ints .u64 w' b' v' (uidsW (A ++ [x]))∧Fr N0 W1 w':=fun A x W1 b1 ov hA hx hI=>by
  rw[uidsW_snoc]
  exact r18Rise_any W1 b1 ov _ hI (Nat.le_trans (uidsW_all A).2.2 (by omega)) x.uid hx.uid
 have hfull:uidsW (wsOf l.commits)=uidsW (wsOf (l.commits.take n)):=by rw[← hn,List.take_length]
 have hsuc:=fun i (hi:i < l.commits.length)=>wsOf_take_succ hi
 have HX:=hhd h;have HRI:=hhd hrise;have HNL:=hhd hn;have HNZ:=hhd hnz;have HL:=hhd hl;have HC:=hhd c10;have HSUC:=hhd hsuc
 rw[hfull]
 clear h hrise hn hnz hl hfull hsuc
 go_enter Tryz.func180,Tryz.ntmps180
 go_wp2
 go_loopw [3,4] (fun ov iv wr=>∃ (i b1:Nat),i≤n∧iv = .int .i64 i∧Hid (Ints .u64 wr b1 ov (uidsW (wsOf (l.commits.take i))))∧Hid (Fr N0 W wr)) (fun _ iv _=>n - (intOf iv).toNat)
 case atStart=>exact⟨0,0,Nat.zero_le _,rfl,hhd (by simpa [wsOf,uidsW] using Ints.nil _ _ _),Fr.refl _ _⟩
 case round=>
  obtain⟨i,b1,hi,rfl,hV,hfr⟩:=hrel
  have c10r:=hfr.out.cell id HC.out
  by_cases hlt:i < n
  ·have hil:i < l.commits.length:=by rw[HNL.out];exact hlt
   obtain rfl:=HNZ.out (by omega)
   obtain⟨wa,wc,bw,x0,x1,hw⟩:=(HX.out.fr hfr.out).cs i hil
   have hs:=HSUC.out i hil
   have hcm:∀ y ∈ l.commits[i].writes,WrOk y:=fun y hy=>HL.out.ok y (by unfold wsOf;exact List.mem_flatMap.2 ⟨_,List.getElem_mem hil,hy⟩)
   have hcl:(wsOf (l.commits.take i)).length+l.commits[i].writes.length≤N:=by
    have h1:=wsOf_sub_len (List.take_sublist (i+1) l.commits)
    rw[hs,List.length_append] at h1
    exact Nat.le_trans h1 HL.out.len
   obtain⟨⟨ct,ws⟩,hc⟩:∃ c,l.commits[i]=c:=⟨_,rfl⟩
   rw[hc] at x0 x1 hw hs hcm hcl
   simp only at x0 x1 hw hs hcm hcl
   have hi1:(i:Int) < (n:Int):=by omega
   obtain⟨nw,hnw⟩:∃ k,ws.length=k:=⟨_,rfl⟩
   have HNW:=hhd hnw;have HS:=hhd hs;have HCM:=hhd hcm;have HCL:=hhd hcl
   have HV:=hhd hV.out;have HFR:=hhd hfr.out
   rw[hnw] at x1 hw
   obtain⟨wa',woff,wcap,he,w1,w2,w3,-,w5⟩:=hw
   injection he with q1 q2 q3
   subst q1 q3
   rw[hnw] at w1 w3
   have HW5:=hhd w5
   have hnw9:nw≤900000000:=by omega
   obtain⟨w8,hw8⟩:∃ w8,w8=wr:=⟨_,rfl⟩
   subst hw8
   clear w5 hnw hs hcm hcl hV hfr hc q2
   go_wp2
   go_loopw [3,5] (fun ov jv w2=>∃ (j b2:Nat),j≤nw∧jv = .int .i64 j∧Hid (Ints .u64 w2 b2 ov (uidsW (wsOf (l.commits.take i) ++ ws.take j)))∧Hid (Fr N0 w8 w2)) (fun _ jv _=>nw - (intOf jv).toNat)
   case atStart=>exact⟨0,b1,Nat.zero_le _,by first | rfl | go_num,hhd (by simpa using HV.out),Fr.refl _ _⟩
   case round=>
    obtain⟨j,b2,hj,rfl,hV2,hfr2⟩:=hrel
    have g10:=hfr2.out.cell id c10r;have gx1:=hfr2.out.cell id x1
    by_cases hjn:j < nw
    ·obtain rfl:=w3 (by omega)
     have hjl:j < ws.length:=by rw[HNW.out];exact hjn
     obtain⟨d0,d1,d2,d3,d4,d5,d6,d7⟩:=wr_cells (W:=w8) (HW5.out j hjl)
     have hx:=HCM.out ws[j] (List.getElem_mem hjl)
     have hts:=List.take_succ_eq_append_getElem hjl
     have hAl:(wsOf (l.commits.take i) ++ ws.take j).length≤900000000:=by
      rw[List.length_append,List.length_take]
      have:=HCL.out
      omega
     have hcall:=HRI.out (wsOf (l.commits.take i) ++ ws.take j) ws[j] _ b2 _ hAl hx hV2.out
     rw[List.append_assoc,← hts] at hcall
     obtain⟨x,hxe⟩:∃ x,ws[j]=x:=⟨_,rfl⟩
     rw[hxe] at d1 hcall
     replace d1:=hfr2.out.cell id d1
     have hj1:(j:Int) < (nw:Int):=by omega
     have HCA:=hhd hcall;have HFR2:=hhd hfr2.out
     clear d0 d2 d3 d4 d5 d6 d7 hxe hx hts hV2 hfr2 hAl hcall
     go_wp2_with fail
     refine HCA.out.mono ?_
     rintro e w5 ⟨v5,b5,rfl,hI5,hf5⟩
     have HI5:=hhd hI5;have HF5:=hhd hf5
     clear hI5 hf5
     go_wp2
     go_roundw
     case rel=>exact⟨j+1,b5,by omega,by go_num,HI5.out,HFR2.out.then0 HF5.out⟩
     case measure=>simp [intOf];omega
    ·obtain rfl:j=nw:=by omega
     have hfull:ws.take j=ws:=by rw[← HNW.out,List.take_length]
     have hV3:=hV2.out
     rw[hfull,← HS.out] at hV3
     have HV3:=hhd hV3;have HFR2:=hhd hfr2.out
     clear hV3 hfull hV2 hfr2
     have hj1:¬(j:Int) < (j:Int):=by omega
     go_wp2
     go_roundw
     case rel=>exact⟨i+1,b2,by omega,by go_num,HV3.out,HFR.out.then0 HFR2.out⟩
     case measure=>simp [intOf];omega
  ·obtain rfl:i=n:=by omega
   have HV3:=hhd hV.out;have HFR2:=hhd hfr.out
   clear hV hfr
   have hi1:¬(i:Int) < (i:Int):=by omega
   go_wp2
   go_ret
   exact⟨_,rfl,⟨b1,HV3.out⟩,HFR2.out⟩
end
end Go.Proofs.YtefepfiijoafbaaGreat
