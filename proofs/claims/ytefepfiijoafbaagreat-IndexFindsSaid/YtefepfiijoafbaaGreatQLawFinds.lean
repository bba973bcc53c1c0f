/- ArgF LxFit LxFinds LawFinds -/
import Derived.BigQuiet
import Derived.Test.YtefepfiijoafbaaGreatRows
import Derived.WalkKit
import Derived.ProofKit
import Derived.OpenShut
import Derived.JoinedCond
import Derived.ShutString
import Derived.ChangeOld
import Derived.Below
import Derived.Test.YtefepfiijoafbaaGreatQArgC
import Derived.Test.YtefepfiijoafbaaGreatQIMay2
import Derived.Test.YtefepfiijoafbaaGreatQQuiet
import Derived.Test.YtefepfiijoafbaaGreatQFdI
import Derived.Test.YtefepfiijoafbaaGreatQLy4
import Derived.Test.YtefepfiijoafbaaGreatQLy1
import Derived.Test.YtefepfiijoafbaaGreatQRMay
set_option linter.unusedVariables false
set_option linter.unusedSimpArgs false
set_option maxRecDepth 100000
set_option maxHeartbeats 8000000
namespace Go.Proofs.YtefepfiijoafbaaGreat
section
open Go.RowKit Go.Shelf Go.Deep
theorem cells_Func:Tryz.prog.cellsOf 94=6:=by kernel_rfl
theorem cells_Side:Tryz.prog.cellsOf 90=2:=by kernel_rfl
theorem cells_fkind:Tryz.prog.cellsOf 82=1:=by kernel_rfl
theorem cells_vals:Tryz.prog.cellsOf 91=1:=by kernel_rfl
theorem cells_strs:Tryz.prog.cellsOf 92=1:=by kernel_rfl
instance : Inhabited Val:=⟨⟨0,false,0,⟨#[]⟩,0⟩⟩
section
variable {H:Type} {enc:TypeId × Value→H} {w:World} {base:Nat} {sp:Nat→Bool} {held:Bool}
theorem open_val{fuel:Nat}{cs:List Value}{x:DataW H × List MemPlace}(h:DataW.trod enc Tryz.prog w base sp held fuel 57 cs=some x):∃ s:Val,cs=s.enc∧s.ok:=by
 obtain⟨xs3,n3,-,-,hl3,hlen3,hf3⟩:=DataW.trod_struct Tryz.underlying57 h
 rw[cells_Value] at hl3
 match cs,hl3 with
 | [c3,c4,c5,c6,c7],_=>
  obtain⟨_,v0⟩:=fld hlen3 hf3 0 rfl cells_vkind
  obtain⟨_,v1⟩:=fld hlen3 hf3 1 rfl cells_bool
  obtain⟨_,v2⟩:=fld hlen3 hf3 2 rfl cells_i64
  obtain⟨_,v3⟩:=fld hlen3 hf3 3 rfl cells_str
  obtain⟨_,v4⟩:=fld hlen3 hf3 4 rfl cells_u64
  obtain⟨s3,e3,-,w3⟩:=DataW.trod_int Tryz.underlying30 v0
  obtain⟨s4,e4,-⟩:=DataW.trod_bool Tryz.underlying4 v1
  obtain⟨s5,e5,-,w5⟩:=DataW.trod_int Tryz.underlying2 v2
  obtain⟨s6,e6,-⟩:=DataW.trod_string Tryz.underlying9 v3
  obtain⟨s7,e7,-,w7⟩:=DataW.trod_int Tryz.underlying33 v4
  simp at e3 e4 e5 e6 e7
  subst e3 e4 e5 e6 e7
  exact⟨⟨s3,s4,s5,s6,s7⟩,rfl,wf_u8' w3,wf_i64' w5,wf_nat w7⟩
structure FnArg(w:World)(f:Fn)(vv uv sv:Value):Prop where
 vals:∃ b,RowsK Val.enc 5 w b vv f.vals
 ok:∀ x ∈ f.vals,x.ok
 uids:∃ a c,uv = .slice a f.uids c
 vars:∃ a c,sv = .slice a f.vars c
 kind:0≤f.kind∧f.kind < 256
theorem open_fn{fuel:Nat}{cs:List Value}{x:DataW H × List MemPlace}(h:DataW.trod enc Tryz.prog w base sp held fuel 94 cs=some x):∃ (f:Fn) (vv uv sv:Value),cs.toArray=f.enc vv uv sv∧FnArg w f vv uv sv:=by
 obtain⟨xs,n,-,-,hl,hlen,hf⟩:=DataW.trod_struct Tryz.underlying94 h
 rw[cells_Func] at hl
 match cs,hl with
 | [c0,c1,c2,c3,c4,c5],_=>
  obtain⟨_,g0⟩:=fld hlen hf 0 rfl cells_fkind
  obtain⟨_,g1⟩:=fld hlen hf 1 rfl cells_Side
  obtain⟨_,g2⟩:=fld hlen hf 2 rfl cells_vals
  obtain⟨_,g3⟩:=fld hlen hf 3 rfl cells_u64s
  obtain⟨_,g4⟩:=fld hlen hf 4 rfl cells_strs
  obtain⟨xs2,n2,-,-,hl2,hlen2,hf2⟩:=DataW.trod_struct Tryz.underlying90 g1
  obtain⟨_,t0⟩:=fld hlen2 hf2 0 rfl cells_str
  obtain⟨_,t1⟩:=fld hlen2 hf2 1 rfl cells_bool
  obtain⟨s0,e0,-,w0⟩:=DataW.trod_int Tryz.underlying82 g0
  obtain⟨s1,e1,-,w1⟩:=DataW.trod_string Tryz.underlying9 t0
  obtain⟨s2,e2,-⟩:=DataW.trod_bool Tryz.underlying4 t1
  obtain⟨b3,v3,l3,e3,r3,o3⟩:=open_rowsK (n:=5) (by decide) (fun _=>rfl) Val.ok Tryz.underlying91 cells_Value (fun _ _ _ h=>open_val h) g2
  obtain⟨b4,v4,l4,e4,r4,-⟩:=open_rowsK (ec:=fun x:Int=>[.int .u64 x]) (n:=1) (by decide) (fun _=>rfl) (fun x=>True) Tryz.underlying35 cells_u64 (fun _ _ _ h=>by
   obtain⟨x,e,-⟩:=DataW.trod_int Tryz.underlying33 h
   exact⟨x,e,trivial⟩) g3
  obtain⟨b5,v5,l5,e5,r5,-⟩:=open_rowsK (ec:=fun x:ByteArray=>[.string x]) (n:=1) (by decide) (fun _=>rfl) (fun x=>True) Tryz.underlying92 cells_str (fun _ _ _ h=>by
   obtain⟨x,e,-⟩:=DataW.trod_string Tryz.underlying9 h
   exact⟨x,e,trivial⟩) g4
  simp at e0 e1 e2 e3 e4 e5
  obtain⟨a4,o4',k4,rfl,-⟩:=id r4
  obtain⟨a5,o5',k5,rfl,-⟩:=id r5
  subst e0 e1 e2 e3 e4 e5
  exact⟨⟨s0,s1,s2,l3,l4.length,l5.length⟩,_,_,_,rfl,⟨⟨b3,r3⟩,o3,⟨_,_,rfl⟩,⟨_,_,rfl⟩,wf_u8' w0⟩⟩
end
end
section
open Go.RowKit Go.Shelf Go.Maps Go.Sort
attribute [local go_sem] Oper.semAt_some
attribute [local irreducible] wpQuiet
def SomeBool(W:World)(e:Ending)(w':World):Prop:=(∃ q:Bool,e = .returned (.bool q))∧Fr N0 W w'
theorem lxFits_any(W:World)(b:Nat)(f:Fn)(vv uv sv:Value)(hv:RowsK Val.enc 5 W b vv f.vals)(hu:∃ a c,uv = .slice a f.uids c)(hs:∃ a c,sv = .slice a f.vars c) :
  Calls Tryz.prog 36 #[.agg (f.enc vv uv sv)] W (SomeBool W):=by
 obtain⟨ua,uc,rfl⟩:=hu
 obtain⟨sa,sc,rfl⟩:=hs
 obtain⟨va,voff,vc,rfl,-,-,k3,-,k5⟩:=hv
 obtain⟨kd,pred,back,vals,nu,ns⟩:=f
 simp only [Fn.enc] at *
 obtain⟨n,hn⟩:∃ n,vals.length=n:=⟨_,rfl⟩
 have HN:=hhd hn;have HC:=hhd k5
 rw[hn] at k3
 simp only [hn]
 clear k5 hn
 obtain⟨w0,hw0⟩:∃ w0,W.alloc (.cells #[.int .u8 kd,.string pred,.bool back,.slice va n vc,.slice ua nu uc,.slice sa ns sc] 94)=w0:=⟨_,rfl⟩
 have hb0:w0.heap[W.heap.size]?=some (.cells #[.int .u8 kd,.string pred,.bool back,.slice va n vc,.slice ua nu uc,.slice sa ns sc] 94 (0,0)):=by rw[← hw0];exact World.alloc_heap_new W _
 have hf0:Fr N0 W w0:=by rw[← hw0];exact(Fr.refl _ _).alloc _
 have hl0:=lt_of_block hb0
 have HB:=hhd hb0;have HF:=hhd hf0
 clear hb0 hf0
 obtain⟨mm,nn,ll⟩:=box_cells HB.out
 go_enter Tryz.func36,Tryz.ntmps36
 go_wp2
 try rw[hw0]
 clear mm nn ll
 go_loopw [3,4] (fun nv iv wr=>∃ (k:Nat) (m:Int),k≤100∧k≤n∧iv = .int .i64 k∧nv = .int .i64 m∧Fr N0 w0 wr) (fun _ iv _=>100 - (intOf iv).toNat)
 case atStart=>exact⟨0,_,by omega,by omega,rfl,rfl,Fr.refl _ _⟩
 case round=>
  obtain⟨k,m,hk,hkl,rfl,rfl,hfr⟩:=hrel
  have hbr:=(hfr.at (k:=W.heap.size) id hl0).trans HB.out
  obtain⟨m0,n0,l0⟩:=box_cells hbr
  clear hbr
  by_cases hlt:k < n
  ·by_cases hl3:k < 100
   ·obtain rfl:=k3 (by omega)
    have hx:k < vals.length:=by rw[HN.out];exact hlt
    have c3:=HC.out k hx 3 (by decide)
    have c3':W.cell? ⟨b,voff+k * 5+3,none⟩=some (.string vals[k].s):=by simpa [Val.enc] using c3
    replace c3':=(HF.out.then0 hfr).cell id c3'
    obtain⟨xv,hxv⟩:∃ x,vals[k].s=x:=⟨_,rfl⟩
    rw[hxv] at c3'
    have hki:(k:Int) < (n:Int):=by omega
    have hk3:(k:Int) < 100:=by omega
    have HFR:=hhd hfr
    clear hxv c3 hfr
    go_wp2
    go_roundw
    case rel=>exact⟨k+1,_,by omega,by omega,by go_num,rfl,HFR.out⟩
    case measure=>simp [intOf];omega
   ·have hk3:¬(k:Int) < 100:=by omega
    have hki:(k:Int) < (n:Int):=by omega
    go_wp2
    go_ret
    exact⟨⟨_,rfl⟩,HF.out.then0 hfr⟩
  ·have hki:¬(k:Int) < (n:Int):=by omega
   go_wp2
   go_ret
   exact⟨⟨_,rfl⟩,HF.out.then0 hfr⟩
end
section
open Go.RowKit Go.Shelf Go.Maps Go.Lib Go.Sort
attribute [local go_sem] Oper.semAt_some
attribute [local go_sem ↓] Go.wp_at_zero Go.wp_at_succ
attribute [local irreducible] wpQuiet
theorem heap_keep{W W':World}{k:Nat}{x:Obj}(hf:Fr N0 W W')(h:W.heap[k]?=some x):W'.heap[k]?=some x:=(hf.at (k:=k) id (lt_of_block h)).trans h
theorem FnArg.at_{w:World}{f:Fn}{vv uv sv:Value}(h:FnArg w f vv uv sv):∃ b,FnAt w b f vv uv sv:=by
 obtain⟨b,hb⟩:=h.vals
 have hl:f.vals.length≤9223372036854775807:=by
  obtain⟨_,_,_,-,h1,h2,-⟩:=hb
  omega
 exact⟨b,hb,fun x hx=>by have:=h.ok x hx;unfold Val.ok at this;omega,hl,h.uids,h.vars⟩
theorem fnMay_two(f:Fn):fnMay f=0∨fnMay f=190:=by
 unfold fnMay mayR;split <;> simp
theorem mem_take_succ{xs:List Int}{i:Nat}(hi:i < xs.length)(u:Int):decide (u ∈ xs.take (i+1))=(decide (u ∈ xs.take i) || decide (xs[i]=u)):=by
 rw[List.take_succ_eq_append_getElem hi,Bool.eq_iff_iff]
 simp only [decide_eq_true_iff,Bool.or_eq_true,List.mem_append,List.mem_singleton]
 constructor
 ·rintro(h | h)
  ·exact .inl h
  ·exact .inr h.symm
 ·rintro(h | h)
  ·exact .inl h
  ·exact .inr h.symm
theorem lxFinds_any(w:World)(s:Sch)(b:Nat)(v:Value)(cs:List CmV)(hcs:Cms w b v cs)(mark t u:Int)(hmk:0≤mark)(f:Fn)(vv uv sv:Value)(hfn:FnArg w f vv uv sv) :
  Calls Tryz.prog 7 #[.agg s.enc.toArray,v,.int .u64 mark,.agg (f.enc vv uv sv),.int .u64 t,.int .u64 u] w fun e w'=>e = .returned (.bool true)∧Fr N0 w w':=by
 obtain⟨bv,hfa⟩:=hfn.at_
 have hf0:Fr N0 w ((w.alloc (.cells s.enc.toArray 32)).alloc (.cells (f.enc vv uv sv) 94)):=((Fr.refl _ _).alloc _).alloc _
 have hb0:((w.alloc (.cells s.enc.toArray 32)).alloc (.cells (f.enc vv uv sv) 94)).heap[w.heap.size]?=some (.cells s.enc.toArray 32 (0,0)):=(Below.heap_alloc _ _ _ (by simp)).trans (World.alloc_heap_new w _)
 have hg0:=heap2_newX w (.cells s.enc.toArray 32) (.cells (f.enc vv uv sv) 94)
 have hls:=fun(hn:cs.length≤20) W' (hf:Fr N0 w W')=>lxLists_any W' s b v cs (hcs.fr hf) (by omega) mark hmk
 have hsm:=fun W' (hf:Fr N0 w W')=>lxSmall_any W' b v cs (hcs.fr hf)
 have hft:=fun W' (hf:Fr N0 w W')=>lxFits_any W' bv f vv uv sv (hfa.fr hf).vals hfn.uids hfn.vars
 have hrm:=fun W' (hf:Fr N0 w W')=>r19May_any W' bv f vv uv sv (hfa.fr hf)
 have him:=fun W' (hf:Fr N0 w W')=>imay_any W' bv f vv uv sv (hfa.fr hf)
 have hif:=fun W' (hf:Fr N0 w W')=>ifits_any W' s f vv uv sv bv (hfa.fr hf)
 have hrf:=fun W' (hf:Fr N0 w W')=>r19Fits_any W' s bv f vv uv sv (hfa.fr hf)
 have hkd:(Lit.int .u8 f.kind).wf=true:=by
  have:=hfn.kind
  simp [Lit.wf,IntKind.min,IntKind.max,IntKind.bits,IntKind.signed];omega
 obtain⟨M,hM⟩:∃ M,fnMay f=M:=⟨_,rfl⟩
 have hM2:=fnMay_two f
 obtain⟨E0,hE0⟩:∃ E0,fnFits s f=E0:=⟨_,rfl⟩
 simp only [hM] at hrm him hM2
 simp only [hE0] at hif hrf
 obtain⟨sc,hsc⟩:∃ sc,sc=s:=⟨_,rfl⟩
 have HLS0:Hid (cs.length≤20→∀ W',Fr N0 w W'→Calls Tryz.prog 25 #[.agg s.enc.toArray,v,.int .u64 mark] W' (LsPost W' sc (512 * cs.length))):=by rw[hsc];exact hhd hls
 have HLS:=HLS0
 obtain⟨L,hL⟩:∃ L,cs.length=L:=⟨_,rfl⟩
 rw[hL] at HLS
 simp only [hL] at hsm
 obtain⟨fc,hfc⟩:∃ fc,fc=f:=⟨_,rfl⟩
 have HFA:Hid (FnAt w bv fc vv uv sv):=by rw[hfc];exact hhd hfa
 have HKD:Hid ((Lit.int .u8 fc.kind).wf=true):=by rw[hfc];exact hhd hkd
 have HENC:Hid (fc.enc vv uv sv=f.enc vv uv sv):=by rw[hfc];exact hhd rfl
 have hS0:FrP w.heap.size (w.heap.size+1) s.enc.toArray (f.enc vv uv sv) w ((w.alloc (.cells s.enc.toArray 32)).alloc (.cells (f.enc vv uv sv) 94)):=⟨⟨(box_cells hb0).1,lt_of_block hb0⟩,⟨(box_cells hg0).1,lt_of_block hg0⟩,hf0⟩
 have HSM:=hhd hsm;have HF0:=hhd hf0;have HB0:=hhd hb0;have HG0:=hhd hg0;have HLV:=hhd fun W=>lxLives_any W;have HFT:=hhd hft;have HRM:=hhd hrm;have HIM:=hhd him;have HIF:=hhd hif;have HRF:=hhd hrf;have HS0:=hhd hS0;have HM2:=hhd hM2
 obtain⟨kd,pred,back,vals,nu,ns⟩:=f
 obtain⟨sp,st,sl,se,sm,so,sr,sn⟩:=s
 replace HENC:=hhd (show fc.enc vv uv sv=#[.int .u8 kd,.string pred,.bool back,vv,uv,sv] from HENC.out)
 simp only [Sch.enc,Fn.enc] at HB0 HG0 HF0 HLS HFT HRM HIM HIF HRF HS0 ⊢
 clear hls hsm hf0 hb0 hg0 hcs hL HLS0 hsc hfn hfa hft hrm him hif hrf hkd hM hM2 hE0 hfc hS0
 go_enter Tryz.func7,Tryz.ntmps7
 go_wp2_with fail
 refine(HLV.out _).mono ?_
 rintro e w1 ⟨rfl,hf1⟩
 have HF1:=hhd (HF0.out.then0 hf1);have HB1:=hhd (heap_keep hf1 HB0.out);have HG1:=hhd (heap_keep hf1 HG0.out)
 have HS1:=hhd (frP_keep HS0.out hf1)
 clear hf1 HB0 HG0 HS0
 go_wp2_with fail
 refine(HSM.out _ HF1.out).mono ?_
 rintro e w2 ⟨⟨r,rfl,hn⟩,hf2⟩
 have HF2:=hhd (HF1.out.then0 hf2);have HB2:=hhd (heap_keep hf2 HB1.out);have HG2:=hhd (heap_keep hf2 HG1.out)
 have HS2:=hhd (frP_keep HS1.out hf2)
 clear hf2 HB1 HG1 HS1
 cases r
 ·go_wp2_with fail
  go_ret
  exact⟨rfl,HF2.out⟩
 replace hn:=hn rfl
 obtain⟨m2,n2,l2⟩:=box_cells HG2.out
 go_wp2_with fail
 refine(HFT.out _ HF2.out).mono ?_
 rintro e w3 ⟨⟨q,rfl⟩,hf3⟩
 have HF3:=hhd (HF2.out.then0 hf3);have HB3:=hhd (heap_keep hf3 HB2.out);have HG3:=hhd (heap_keep hf3 HG2.out)
 have HS3:=hhd (frP_keep HS2.out hf3)
 clear hf3 HB2 HG2 HS2 m2 n2 l2
 cases q
 ·go_wp2_with fail
  go_ret
  exact⟨rfl,HF3.out⟩
 obtain⟨m3,n3,l3⟩:=box_cells HG3.out
 go_wp2_with fail
 refine(HRM.out _ HF3.out).mono ?_
 rintro e w4 ⟨rfl,hf4⟩
 have HF4:=hhd (HF3.out.then0 hf4);have HB4:=hhd (heap_keep hf4 HB3.out);have HG4:=hhd (heap_keep hf4 HG3.out)
 have HS4:=hhd (frP_keep HS3.out hf4)
 clear hf4 HB3 HG3 HS3 m3 n3 l3
 have hM2:=HM2.out
 rcases hM2 with rfl | rfl
 all_goals
  go_wp2_with fail
  have hS4:=frP_keep HS4.out (Fr.refl N0 w4).drew
  have hr4:=(Fr.refl N0 w4).drew
  go_region_held3 (FrP w.heap.size (w.heap.size+1) #[.string sp,.int .u8 st,.bool sl,.bool se,.bool sm,.bool so,.bool sr,.bool sn] #[.int .u8 kd,.string pred,.bool back,vv,uv,sv] w) (first
   |(with_reducible assumption)
   | fail) (first
   |(go_simp;go_at_call 38;refine(HIM.out _ hS4.2.2).mono ?_;rintro e w5 ⟨rfl,hf5⟩;have hS5:=frP_keep hS4 hf5;have hr5:=hr4.then0 hf5)
   |(go_simp;go_at_call 39;refine(HIF.out _ hS5.2.2).mono ?_;rintro e w6 ⟨rfl,hf6⟩;have hS6:=frP_keep hS5 hf6;have hr6:=hr5.then0 hf6)
   |(go_simp;go_at_call 40;refine(HRF.out _ hS6.2.2).mono ?_;rintro e w7 ⟨rfl,hf7⟩;have hS7:=frP_keep hS6 hf7;have hr7:=hr6.then0 hf7)
   | fail)
  have HF7:=hhd hS7.2.2;have HB7:=hhd (heap_keep hr7 HB4.out);have HG7:=hhd (heap_keep hr7 HG4.out)
  clear hS4 hS5 hS6 hS7 hr4 hr5 hr6 hr7 hf5 hf6 hf7 HB4 HG4 HS4
  obtain⟨m7,n7,l7⟩:=box_cells HB7.out
  go_wp2_with fail
  refine(HLS.out hn _ HF7.out).mono ?_
  rintro e w8 h
  rcases h with⟨-,rfl,hf8⟩ | ⟨p1,p2,R1,R2,m,rfl,hS,hK⟩
  ·have HF8:=hhd (HF7.out.then0 hf8)
   clear hf8 m7 n7 l7
   go_wp2_with fail
   go_ret
   exact⟨rfl,HF8.out⟩
  ·have HF8:=hhd (HF7.out.then0 hS.ll.2.2)
   have HG8:=hhd (heap_keep hS.ll.2.2 HG7.out)
   obtain⟨xs,x1,x2,x3,x4⟩:=exists_found hK.at_ t fc (nbkOf m t)
   obtain⟨ks,hks⟩:=exists_nodes m t
   have hN1:512 * L≤900000000:=by omega
   obtain⟨xa,xbc,xoff,xcap,hX⟩:=hS.xx.read
   have h1:=fun W' (hf:Fr N0 w8 W')=>iFind_law (W:=W') (R:=R1) (p:=p1) (ks:=ks) ⟨(hS.fr hf).ll.1,fun k hk=>((hS.fr hf).ll.2.1 k hk).2,hK.at_,by omega,hks,HFA.out.fr (HF8.out.then0 hf)⟩ hN1 HKD.out (nbkOf m t) (nbkOf_is m t)
   have h2:=fun W' (hf:Fr N0 w8 W')=>r19Find_any W' R2 p2 m _ (hS.fr hf).xx hK.at_ hN1 hK.rises t bv fc vv uv sv (HFA.out.fr (HF8.out.then0 hf)) (nbkOf m t) (nbkOf_is m t)
   have g1:=fun W' (hf:Fr N0 w8 W')=>(h1 W' hf).mono fun e w' hh=>FindPost.nums x1 x2 x4 hh
   have g2:=fun W' (hf:Fr N0 w8 W')=>(h2 W' hf).mono fun e w' hh=>FindPost.nums x1 x2 x4 hh
   have g3:=fun W' (hf:Fr N0 w8 W')=>is_nums x1 x2 x4 (by omega) W' _ fc vv uv sv t u fun w1 hg=>h1 w1 (hf.then0 hg)
   obtain⟨E,hE⟩:∃ E,findC (fnFits m.s fc) (decide (t < m.marked))=E:=⟨_,rfl⟩
   obtain⟨es,hes⟩:∃ es,findE (fnFits m.s fc) (decide (t < m.marked)) xs=es:=⟨_,rfl⟩
   simp only [hE,hes,HENC.out] at g1 g2 g3
   have H1:=hhd g1;have H2:=hhd g2;have H3:=hhd g3
   clear h1 h2 g1 g2 g3 hE hes x1 x2 x3 x4 xs hks ks hX hS hK m7 n7 l7 HB7 HG7
   obtain⟨m8,n8,l8⟩:=box_cells HG8.out
   go_wp2_with fail
   refine(H1.out _ (Fr.refl _ _)).mono ?_
   rintro e w9 ⟨v9,b9,rfl,hI9,hf9⟩
   have HI9:=hhd hI9;have HF9:=hhd hf9;have HG9:=hhd (heap_keep hf9 HG8.out)
   clear hI9 hf9 m8 n8 l8 HG8
   obtain⟨m9,n9,l9⟩:=box_cells HG9.out
   go_wp2_with fail
   refine(H2.out _ HF9.out).mono ?_
   rintro e wa ⟨va,ba,rfl,hIa,hfa⟩
   have HIa:=hhd hIa;have HI9a:=hhd (HI9.out.fr0 hfa);have HFa:=hhd (HF9.out.then0 hfa);have HGa:=hhd (heap_keep hfa HG9.out)
   clear hIa hfa m9 n9 l9 HG9 HI9
   obtain⟨ma,na,la⟩:=box_cells HGa.out
   go_wp2_with fail
   refine(H3.out _ HFa.out).mono ?_
   rintro e wb ⟨rfl,hfb⟩
   have HIb:=hhd (HIa.out.fr0 hfb);have HI9b:=hhd (HI9a.out.fr0 hfb);have HFb:=hhd (HF8.out.then0 (HFa.out.then0 hfb))
   clear hfb ma na la HGa HIa HI9a
   obtain⟨D,hD⟩:∃ D,decide (u ∈ es)=D:=⟨_,rfl⟩
   have HD:=hhd hD
   simp only [hD]
   clear hD
   have hIb:=HIb.out
   obtain⟨ya,yo,yc,rfl,y1,y2,y3,-,y5,-⟩:=hIb
   obtain⟨n,hnn⟩:∃ n,es.length=n:=⟨_,rfl⟩
   have HN:=hhd hnn;have HY5:=hhd y5
   rw[hnn] at y1 y3
   simp only [hnn] at HIb ⊢
   clear y5 hnn
   go_wp2_with fail
   go_loopw [22,23] (fun fv iv wr=>∃ (i:Nat),i≤n∧iv = .int .i64 i∧fv = .bool (decide (u ∈ es.take i))∧wr=wb) (fun _ iv _=>n - (intOf iv).toNat)
   case atStart=>exact⟨0,Nat.zero_le _,by first | rfl | go_num,by simp,rfl⟩
   case round=>
    obtain⟨i,hi',rfl,rfl,rfl⟩:=hrel
    by_cases hlt:i < n
    ·obtain rfl:=y3 (by omega)
     have hiu:i < es.length:=by rw[HN.out];exact hlt
     have cu:=HY5.out i hiu
     have hst:=mem_take_succ hiu u
     obtain⟨F,hF⟩:∃ F,decide (u ∈ es.take i)=F:=⟨_,rfl⟩
     rw[hF] at hst
     simp only [hF]
     obtain⟨z,hz⟩:∃ z,es[i]=z:=⟨_,rfl⟩
     rw[hz] at cu hst
     have HST:=hhd hst
     have hi1:(i:Int) < (n:Int):=by omega
     clear hF hz hst
     cases F
     ·by_cases hzu:z=u
      ·subst hzu
       go_wp2_with fail
       go_roundw
       case rel=>exact⟨i+1,by omega,by first | rfl | go_num,by rw[HST.out];simp,trivial⟩
       case measure=>simp [intOf] <;> omega
      ·have hzu':(z == u)=false:=by simpa using hzu
       go_wp2_with fail
       go_roundw
       case rel=>exact⟨i+1,by omega,by first | rfl | go_num,by rw[HST.out];simp [hzu],trivial⟩
       case measure=>simp [intOf] <;> omega
     ·go_wp2_with fail
      go_roundw
      case rel=>exact⟨i+1,by omega,by first | rfl | go_num,by rw[HST.out];simp,trivial⟩
      case measure=>simp [intOf] <;> omega
    ·obtain rfl:i=n:=by omega
     have hfull:es.take i=es:=by rw[← HN.out,List.take_length]
     rw[hfull]
     simp only [HD.out]
     have hi1:¬(i:Int) < (i:Int):=by omega
     clear hfull
     go_wp2_with fail
     refine(sameN_any _ _ _ _ _ _ HI9b.out HIb.out).mono ?_
     rintro e wc ⟨rfl,hfc⟩
     have HFc:=hhd (HFb.out.then0 hfc)
     clear hfc
     go_wp2_with fail
     go_ret
     exact⟨rfl,HFc.out⟩
end
end Go.Proofs.YtefepfiijoafbaaGreat
namespace Go.Proofs.YtefepfiijoafbaaGreat.indexFinds
open Go.ChangeShapes Go.WideShapes Go.ChangeAt Go.RowKit Go.Deep
open Go.ChangeMaps (open_string shut_string)
theorem own:ownKnob Tryz.prog.godebug=none:=by kernel_rfl
theorem laidOut:laidOutB Tryz.prog=true:=by kernel_rfl
theorem lifted(os:Os)(started:os.Started)(H:Type)(enc:TypeId × Value→H) :
  ReturnsInHanded {} Tryz.checked os 7 .any (Rows.indexFindsSpec.pre6 enc Tryz.prog Tryz.f7 Rows.indexFindsRow.domain false) (Rows.indexFindsSpec.post enc Tryz.prog Tryz.f7 false true false false):=by
 refine returnsInHanded_of_change (C:=Tryz.checked) own started (by kernel_rfl) Tryz.func7
  (ChangeSpec.witness6 (enc:=enc) (C:=Tryz.checked) false ⟨#[],#[.agg #[.string ⟨#[]⟩,.int .u8 0,.bool false,.bool false,.bool false,.bool false,.bool false,.bool false],.slice none 0 0,.int .u64 0,.agg #[.int .u8 0,.string ⟨#[]⟩,.bool false,.slice none 0 0,.slice none 0 0,.slice none 0 0],.int .u64 0,.int .u64 0],[]⟩ 8 (by kernel_rfl) (by kernel_rfl) (by kernel_rfl) (by kernel_rfl)) ?_
 intro W base args ds gs before hval0 hW hcnd _
 have hval:∀ (j:Nat) t v,Tryz.f7.params[j]?=some t→args[j]?=some v→Value.okWide Tryz.prog W .any base t v:=hval0
 have hW':=hW
 obtain⟨p,q,hA0,hV,rfl,hfz,hnd⟩:=hW
 have hA:DataW.TrodAll enc Tryz.prog W 0 (fun _=>true) true Tryz.f7.params.toList args.toList ds p:=hA0
 rw[Tryz.params7] at hA hval
 obtain⟨v0,vs0,d0,ds0,p0,q0,hargs,rfl,rfl,h0,r0⟩:=trodAll_cons hA
 obtain⟨v1,vs1,d1,ds1,p1,q1,rfl,rfl,rfl,h1,r1⟩:=trodAll_cons r0
 obtain⟨v2,vs2,d2,ds2,p2,q2,rfl,rfl,rfl,h2,r2⟩:=trodAll_cons r1
 obtain⟨v3,vs3,d3,ds3,p3,q3,rfl,rfl,rfl,h3,r3⟩:=trodAll_cons r2
 obtain⟨v4,vs4,d4,ds4,p4,q4,rfl,rfl,rfl,h4,r4⟩:=trodAll_cons r3
 obtain⟨v5,vs5,d5,ds5,p5,q5,rfl,rfl,rfl,h5,r5⟩:=trodAll_cons r4
 obtain⟨rfl,rfl,rfl⟩:=trodAll_nil r5
 obtain rfl:args=#[v0,v1,v2,v3,v4,v5]:=by cases args;simp_all
 obtain⟨rfl,rfl⟩:=trodVars_none hV
 obtain⟨ss0,rfl,hsz0⟩:=okWide_struct Tryz.underlying32 (hval 0 32 v0 rfl rfl)
 obtain⟨a1,len1,cap1,rfl⟩:=okWide_slice Tryz.underlying36 (hval 1 36 v1 rfl rfl)
 obtain⟨n2,rfl⟩:=okWide_int Tryz.underlying33 (hval 2 33 v2 rfl rfl)
 obtain⟨ss3,rfl,hsz3⟩:=okWide_struct Tryz.underlying94 (hval 3 94 v3 rfl rfl)
 obtain⟨n4,rfl⟩:=okWide_int Tryz.underlying33 (hval 4 33 v4 rfl rfl)
 obtain⟨n5,rfl⟩:=okWide_int Tryz.underlying33 (hval 5 33 v5 rfl rfl)
 have k0:=h0
 have k1:=h1
 have k2:=h2
 have k3:=h3
 have k4:=h4
 have k5:=h5
 have lt0:∀ x ∈ p0,x.block < W.heap.size:=by obtain⟨m,hm⟩:=k0;exact DataW.trod_lt m _ _ _ hm
 have lt1:∀ x ∈ p1,x.block < W.heap.size:=by obtain⟨m,hm⟩:=k1;exact DataW.trod_lt m _ _ _ hm
 have lt2:∀ x ∈ p2,x.block < W.heap.size:=by obtain⟨m,hm⟩:=k2;exact DataW.trod_lt m _ _ _ hm
 have lt3:∀ x ∈ p3,x.block < W.heap.size:=by obtain⟨m,hm⟩:=k3;exact DataW.trod_lt m _ _ _ hm
 have lt4:∀ x ∈ p4,x.block < W.heap.size:=by obtain⟨m,hm⟩:=k4;exact DataW.trod_lt m _ _ _ hm
 have lt5:∀ x ∈ p5,x.block < W.heap.size:=by obtain⟨m,hm⟩:=k5;exact DataW.trod_lt m _ _ _ hm
 obtain⟨s,hs⟩:∃ s:Sch,ss0=s.enc.toArray:=by
  obtain⟨fuel,hf⟩:=h0
  obtain⟨s,hcs,-⟩:=open_sch hf
  exact⟨s,by simp [Value.cells] at hcs;rw[← hcs]⟩
 subst hs
 obtain⟨b,cs,hC⟩:∃ b cs,Cms W b (.slice a1 len1 cap1) cs:=by
  obtain⟨fuel,hf⟩:=h1
  obtain⟨b,v,cs,hcs,hC⟩:=open_cms hf
  simp [Value.cells] at hcs
  subst hcs
  exact⟨b,cs,hC⟩
 have w2:(Lit.int .u64 n2).wf=true:=by
  obtain⟨fuel,hf⟩:=h2
  obtain⟨x,e,-,hw⟩:=DataW.trod_int Tryz.underlying33 hf
  simp [Value.cells] at e
  subst e
  exact hw
 obtain⟨f,vv,uv,sv,hcs,hfn⟩:∃ (f:Fn) (vv uv sv:Value),ss3=f.enc vv uv sv∧FnArg W f vv uv sv:=by
  obtain⟨fuel,hf⟩:=h3
  obtain⟨f,vv,uv,sv,hcs,hg⟩:=open_fn hf
  exact⟨f,vv,uv,sv,by simpa [Value.cells] using hcs,hg⟩
 subst hcs
 have w4:(Lit.int .u64 n4).wf=true:=by
  obtain⟨fuel,hf⟩:=h4
  obtain⟨x,e,-,hw⟩:=DataW.trod_int Tryz.underlying33 hf
  simp [Value.cells] at e
  subst e
  exact hw
 have w5:(Lit.int .u64 n5).wf=true:=by
  obtain⟨fuel,hf⟩:=h5
  obtain⟨x,e,-,hw⟩:=DataW.trod_int Tryz.underlying33 hf
  simp [Value.cells] at e
  subst e
  exact hw
 clear hA0 hval0
 refine(lxFinds_any W s b _ cs hC n2 n4 n5 (wf_nn w2).1 f vv uv sv hfn).mono fun e W' ⟨he,hfr⟩=>?_
 have bel:=hfr.below0
 subst he
 exact⟨_,rfl,_,_,_,[],_,[],hW',trodAll_mk1 (shut_bool Tryz.underlying4 _),(trodAll_cons_mk (Below.trod laidOut (by kernel_rfl) (of_decide_eq_true (by kernel_rfl)) k0 bel lt0) (trodAll_cons_mk (Below.trod laidOut (by kernel_rfl) (of_decide_eq_true (by kernel_rfl)) k1 bel lt1) (trodAll_cons_mk (Below.trod laidOut (by kernel_rfl) (of_decide_eq_true (by kernel_rfl)) k2 bel lt2) (trodAll_cons_mk (Below.trod laidOut (by kernel_rfl) (of_decide_eq_true (by kernel_rfl)) k3 bel lt3) (trodAll_cons_mk (Below.trod laidOut (by kernel_rfl) (of_decide_eq_true (by kernel_rfl)) k4 bel lt4) (trodAll_cons_mk (Below.trod laidOut (by kernel_rfl) (of_decide_eq_true (by kernel_rfl)) k5 bel lt5) trodAll_mk0)))))),rfl,bel.frame _,fun h=>by cases h⟩
theorem over:Rows.indexFindsRow.holds Tryz.pinned (OpenSpec.ofChange Rows.indexFindsSpec):=
 OpenClaim.holds_of_wide 7 Tryz.f7 rfl rfl rfl rfl rfl rfl rfl ⟨rfl,rfl,rfl,rfl,rfl⟩ rfl rfl rfl rfl rfl (by kernel_rfl) Tryz.func7 (by kernel_rfl)
  (of_decide_eq_true (by kernel_rfl)) (by unfold Func.isWrapper;first | (rw[if_pos (by decide +kernel)];kernel_rfl) | (rw[if_neg (by decide +kernel)];exact⟨rfl,rfl⟩))
  (fun os started H enc _=>lifted os started H enc)
theorem proved:Rows.IndexFindsSaid:=over
#print axioms proved
end Go.Proofs.YtefepfiijoafbaaGreat.indexFinds
