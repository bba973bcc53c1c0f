/- ArgB LxSmall ArgC -/
import Derived.Deep.Slices
import Derived.BigQuiet
import Derived.Test.YtefepfiijoafbaaGreatQDelW
import Derived.Test.YtefepfiijoafbaaGreatQValO
import Derived.Test.YtefepfiijoafbaaGreatQEq4
set_option linter.unusedVariables false
set_option linter.unusedSimpArgs false
set_option maxRecDepth 100000
set_option maxHeartbeats 4000000
namespace Go.Proofs.YtefepfiijoafbaaGreat
section
open Go.RowKit Go.Shelf Go.Deep
theorem cell_spot{w:World}{a:Addr}{v:Value}(h:w.cell? a=some v):a.spot=none:=by
 unfold World.cell? at h
 split at h
 ·split at h
  ·cases h
  ·rename_i h2;simpa using h2
 ·cases h
section
variable {H:Type} {enc:TypeId × Value→H} {w:World} {base:Nat} {sp:Nat→Bool} {held:Bool}
theorem open_rowsK{α:Type}[Inhabited α]{ec:α→List Value}{n:Nat}(hn:0 < n)(hlen:∀ x,(ec x).length=n)(Good:α→Prop){t e:TypeId}(ht:Tryz.prog.underlying t=some (.slice e))(hc:Tryz.prog.cellsOf e=n)
  (hel:∀ fuel cs (x:DataW H × List MemPlace),DataW.trod enc Tryz.prog w base sp held fuel e cs=some x→∃ a:α,cs=ec a∧Good a)
  {fuel:Nat} {cs:List Value} {x:DataW H × List MemPlace} (h:DataW.trod enc Tryz.prog w base sp held fuel t cs=some x) :
  ∃ b v xs,cs = [v]∧RowsK ec n w b v xs∧∀ x ∈ xs,Good x:=by
 rcases open_slice ht h with⟨rfl,_⟩ | ⟨a,len,cap,m,k,D,Pl,rfl,hb,hl,hm,hmm,-,hx⟩
 ·exact⟨0,_,[],rfl,RowsK.nil _ _ _ _,by simp⟩
 ·have hle:len≤m:=by rw[hmm];split <;> omega
  obtain⟨A,hA⟩:=choose_lt (n:=len) (p:=fun i (a':α)=>w.cells? base (a.add (i * n)) n=some (ec a')∧Good a') (fun i hi=>by
   obtain⟨cs',h1,h2⟩:=hx i (by omega)
   obtain⟨a',rfl,hg⟩:=hel _ _ _ h2
   rw[hc] at h1
   exact⟨a',h1,hg⟩)
  have hsp:0 < len→a.spot=none:=fun h0=>by
   have h1:=(World.cells?_some (hA 0 h0).1).2.2 0 hn
   have h2:0 < (ec (A 0)).length:=by rw[hlen];exact hn
   rw[List.getElem?_eq_getElem h2] at h1
   have:=cell_spot h1
   rw[Nat.zero_mul] at this
   simpa [Addr.add] using this
  refine⟨a.block,_,(List.range len).map A,rfl,⟨some a,a.off,cap,by simp,by simpa using hl,by unfold maxLen at hm;omega,fun h0=>?_,by simp,fun i hi c hcn=>?_⟩,fun x hx'=>?_⟩
  ·have:=hsp (by simpa using h0)
   obtain⟨b,o,s⟩:=a
   simp only at this
   rw[this]
  ·have hi':i < len:=by simpa using hi
   have h1:=(World.cells?_some (hA i hi').1).2.2 c hcn
   have h2:=hsp (by omega)
   obtain⟨b,o,s⟩:=a
   simp only at h2
   subst h2
   rw[addr_add0,addr_add0] at h1
   simpa using h1
  ·obtain⟨i,hi,rfl⟩:=List.mem_map.1 hx'
   exact(hA i (List.mem_range.1 hi)).2
theorem fld{fs:Array Field}{xs:List (DataW H × List MemPlace)}{cs:List Value}{n:Nat}(hlen:xs.length=fs.size)
  (hf:∀ (i:Nat) (f:Field),fs[i]?=some f→DataW.trod enc Tryz.prog w base sp held n f.type ((cs.drop f.offset).take (Tryz.prog.cellsOf f.type))=xs[i]?)
  {t:TypeId} {off c:Nat} (i:Nat) (hi:(fs[i]?).map (fun f=>(f.type,f.offset))=some (t,off)) (hc:Tryz.prog.cellsOf t=c):∃ y,DataW.trod enc Tryz.prog w base sp held n t ((cs.drop off).take c)=some y:=by
 obtain⟨f,h1,h2⟩:=Option.map_eq_some_iff.1 hi
 have h3:=hf i f h1
 have hlt:i < xs.length:=by
  rw[hlen]
  exact(Array.getElem?_eq_some_iff.1 h1).1
 rw[List.getElem?_eq_getElem hlt] at h3
 obtain⟨rfl,rfl⟩:=Prod.mk.inj h2
 subst hc
 exact⟨_,h3⟩
theorem wf_kind{k:IntKind}{x a b:Int}(h:(Lit.int k x).wf=true)(ha:k.min=a)(hb:k.max=b):a≤x∧x≤b:=by
 have h':(decide (k.min≤x) && decide (x≤k.max))=true:=h
 rw[Bool.and_eq_true,decide_eq_true_eq,decide_eq_true_eq,ha,hb] at h'
 exact h'
theorem wf_nat{x:Int}(h:(Lit.int .u64 x).wf=true):0≤x∧x < 18446744073709551616:=by
 have:=wf_kind (a:=0) (b:=18446744073709551615) h (by decide) (by decide);omega
theorem wf_u8'{x:Int}(h:(Lit.int .u8 x).wf=true):0≤x∧x < 256:=by
 have:=wf_kind (a:=0) (b:=255) h (by decide) (by decide);omega
theorem wf_i64'{x:Int}(h:(Lit.int .i64 x).wf=true):-9223372036854775808≤x∧x≤9223372036854775807:=wf_kind h (by decide) (by decide)
theorem cells_str:Tryz.prog.cellsOf 9=1:=by kernel_rfl
theorem cells_bool:Tryz.prog.cellsOf 4=1:=by kernel_rfl
theorem cells_u64:Tryz.prog.cellsOf 33=1:=by kernel_rfl
theorem cells_i64:Tryz.prog.cellsOf 2=1:=by kernel_rfl
theorem cells_vkind:Tryz.prog.cellsOf 30=1:=by kernel_rfl
theorem cells_Schema:Tryz.prog.cellsOf 32=8:=by kernel_rfl
theorem cells_Write:Tryz.prog.cellsOf 61=8:=by kernel_rfl
theorem cells_Triple:Tryz.prog.cellsOf 59=7:=by kernel_rfl
theorem cells_Value:Tryz.prog.cellsOf 57=5:=by kernel_rfl
theorem cells_Commit:Tryz.prog.cellsOf 80=2:=by kernel_rfl
theorem cells_writes:Tryz.prog.cellsOf 34=1:=by kernel_rfl
theorem cells_u64s:Tryz.prog.cellsOf 35=1:=by kernel_rfl
theorem open_sch{fuel:Nat}{cs:List Value}{x:DataW H × List MemPlace}(h:DataW.trod enc Tryz.prog w base sp held fuel 32 cs=some x):∃ s:Sch,cs=s.enc∧True:=by
 obtain⟨xs,n,-,-,hl,hlen,hf⟩:=DataW.trod_struct Tryz.underlying32 h
 rw[cells_Schema] at hl
 match cs,hl with
 | [c0,c1,c2,c3,c4,c5,c6,c7],_=>
  obtain⟨_,g0⟩:=fld hlen hf 0 rfl cells_str
  obtain⟨_,g1⟩:=fld hlen hf 1 rfl cells_vkind
  obtain⟨_,g2⟩:=fld hlen hf 2 rfl cells_bool
  obtain⟨_,g3⟩:=fld hlen hf 3 rfl cells_bool
  obtain⟨_,g4⟩:=fld hlen hf 4 rfl cells_bool
  obtain⟨_,g5⟩:=fld hlen hf 5 rfl cells_bool
  obtain⟨_,g6⟩:=fld hlen hf 6 rfl cells_bool
  obtain⟨_,g7⟩:=fld hlen hf 7 rfl cells_bool
  obtain⟨s0,e0,-⟩:=DataW.trod_string Tryz.underlying9 g0
  obtain⟨s1,e1,-⟩:=DataW.trod_int Tryz.underlying30 g1
  obtain⟨s2,e2,-⟩:=DataW.trod_bool Tryz.underlying4 g2
  obtain⟨s3,e3,-⟩:=DataW.trod_bool Tryz.underlying4 g3
  obtain⟨s4,e4,-⟩:=DataW.trod_bool Tryz.underlying4 g4
  obtain⟨s5,e5,-⟩:=DataW.trod_bool Tryz.underlying4 g5
  obtain⟨s6,e6,-⟩:=DataW.trod_bool Tryz.underlying4 g6
  obtain⟨s7,e7,-⟩:=DataW.trod_bool Tryz.underlying4 g7
  simp at e0 e1 e2 e3 e4 e5 e6 e7
  subst e0 e1 e2 e3 e4 e5 e6 e7
  exact⟨⟨s0,s1,s2,s3,s4,s5,s6,s7⟩,rfl,trivial⟩
theorem open_wr{fuel:Nat}{cs:List Value}{x:DataW H × List MemPlace}(h:DataW.trod enc Tryz.prog w base sp held fuel 61 cs=some x):∃ s:Wr,cs=s.enc∧(s.ok∧s.pred.size≤maxLen):=by
 obtain⟨xs,n,-,-,hl,hlen,hf⟩:=DataW.trod_struct Tryz.underlying61 h
 rw[cells_Write] at hl
 match cs,hl with
 | [c0,c1,c2,c3,c4,c5,c6,c7],_=>
  obtain⟨_,g0⟩:=fld hlen hf 0 rfl cells_bool
  obtain⟨_,g1⟩:=fld hlen hf 1 rfl cells_Triple
  obtain⟨xs2,n2,-,-,hl2,hlen2,hf2⟩:=DataW.trod_struct Tryz.underlying59 g1
  obtain⟨_,t0⟩:=fld hlen2 hf2 0 rfl cells_u64
  obtain⟨_,t1⟩:=fld hlen2 hf2 1 rfl cells_str
  obtain⟨_,t2⟩:=fld hlen2 hf2 2 rfl cells_Value
  obtain⟨xs3,n3,-,-,hl3,hlen3,hf3⟩:=DataW.trod_struct Tryz.underlying57 t2
  obtain⟨_,v0⟩:=fld hlen3 hf3 0 rfl cells_vkind
  obtain⟨_,v1⟩:=fld hlen3 hf3 1 rfl cells_bool
  obtain⟨_,v2⟩:=fld hlen3 hf3 2 rfl cells_i64
  obtain⟨_,v3⟩:=fld hlen3 hf3 3 rfl cells_str
  obtain⟨_,v4⟩:=fld hlen3 hf3 4 rfl cells_u64
  obtain⟨s0,e0,-⟩:=DataW.trod_bool Tryz.underlying4 g0
  obtain⟨s1,e1,-,w1⟩:=DataW.trod_int Tryz.underlying33 t0
  obtain⟨s2,e2,-,w2⟩:=DataW.trod_string Tryz.underlying9 t1
  obtain⟨s3,e3,-,w3⟩:=DataW.trod_int Tryz.underlying30 v0
  obtain⟨s4,e4,-⟩:=DataW.trod_bool Tryz.underlying4 v1
  obtain⟨s5,e5,-,w5⟩:=DataW.trod_int Tryz.underlying2 v2
  obtain⟨s6,e6,-⟩:=DataW.trod_string Tryz.underlying9 v3
  obtain⟨s7,e7,-,w7⟩:=DataW.trod_int Tryz.underlying33 v4
  simp at e0 e1 e2 e3 e4 e5 e6 e7
  subst e0 e1 e2 e3 e4 e5 e6 e7
  exact⟨⟨s0,s1,s2,⟨s3,s4,s5,s6,s7⟩⟩,rfl,⟨wf_nat w1,wf_u8' w3,wf_i64' w5,wf_nat w7⟩,w2⟩
instance : Inhabited Sch:=⟨⟨⟨#[]⟩,0,false,false,false,false,false,false⟩⟩
instance : Inhabited Wr:=⟨⟨false,0,⟨#[]⟩,⟨0,false,0,⟨#[]⟩,0⟩⟩⟩
instance : Inhabited CmV:=⟨⟨0,none,0,0⟩⟩
end
end
section
open Go.RowKit Go.Shelf Go.Maps
attribute [local go_sem] Oper.semAt_some
attribute [local irreducible] wpQuiet
def CmGood(W:World)(c:CmV):Prop:=(Lit.int .u64 c.time).wf=true∧∃ b ys,Wrs W b (.slice c.a c.n c.c) ys∧∀ y ∈ ys,y.ok
theorem CmGood.fr{W W':World}{c:CmV}(h:CmGood W c)(hf:Fr N0 W W'):CmGood W' c:=by
 obtain⟨h1,b,ys,h2,h3⟩:=h
 exact⟨h1,b,ys,h2.fr0 hf,h3⟩
structure Cms(W:World)(b:Nat)(v:Value)(cs:List CmV):Prop where
 rows:RowsK CmV.enc 2 W b v cs
 good:∀ c ∈ cs,CmGood W c
theorem Cms.fr{W W':World}{b:Nat}{v:Value}{cs:List CmV}(h:Cms W b v cs)(hf:Fr N0 W W'):Cms W' b v cs:=
 ⟨RowsK.fr0 (enc:=CmV.enc) (n:=2) (fun _=>rfl) h.rows hf,fun c hc=>(h.good c hc).fr hf⟩
def LxSmall(n:Nat)(W:World)(e:Ending)(w':World):Prop:=(∃ r:Bool,e = .returned (.bool r)∧(r=true→n≤20))∧Fr N0 W w'
theorem lxSmall_any(W:World)(b:Nat)(v:Value)(cs:List CmV)(h:Cms W b v cs):Calls Tryz.prog 26 #[v] W (LxSmall cs.length W):=by
 obtain⟨⟨a,off,cap,rfl,h1,h2,h3,h4,h5⟩,hG⟩:=h
 obtain⟨L,hL⟩:∃ L,cs.length=L:=⟨_,rfl⟩
 have HC:=hhd h5;have HG:=hhd hG;have HL:=hhd hL
 rw[hL] at h1 h3
 simp only [hL]
 clear h5 h4 hG hL
 go_enter Tryz.func26,Tryz.ntmps26
 go_wp2
 go_loopw [3,4] (fun nv iv wr=>∃ (k:Nat) (m:Int),k≤100∧k≤L∧iv = .int .i64 k∧nv = .int .i64 m∧Fr N0 W wr) (fun _ iv _=>100 - (intOf iv).toNat)
 case atStart=>exact⟨0,_,by omega,by omega,rfl,rfl,Fr.refl _ _⟩
 case round=>
  obtain⟨k,m,hk,hkl,rfl,rfl,hfr⟩:=hrel
  by_cases hl:k < L
  ·by_cases hl3:k < 100
   ·obtain rfl:=h3 (by omega)
    have hx:k < cs.length:=by rw[HL.out];exact hl
    have c1:=hfr.cell id (HC.out k hx 1 (by decide))
    obtain⟨-,bw,ys,hw,-⟩:=HG.out cs[k] (List.getElem_mem hx)
    obtain⟨⟨ct,ca,cn,cc⟩,hcs⟩:∃ x,cs[k]=x:=⟨_,rfl⟩
    simp only [hcs,CmV.enc,List.getElem?_cons_succ,List.getElem?_cons_zero] at c1 hw
    obtain⟨wa,woff,wcap,he,w1,w2,w3,-,w5⟩:=hw
    injection he with q1 q2 q3
    subst q1 q2 q3
    obtain⟨n,hn⟩:∃ n,ys.length=n:=⟨_,rfl⟩
    have HW5:=hhd w5;have HN:=hhd hn
    rw[hn] at w1 w3 c1
    have hki:(k:Int) < (L:Int):=by omega
    have hk3:(k:Int) < 100:=by omega
    have HF:=hhd hfr
    have C1:=hhd (HC.out k hx 1 (by decide))
    simp only [hcs,CmV.enc,List.getElem?_cons_succ,List.getElem?_cons_zero] at C1
    rw[hn] at C1
    clear w5 hn hcs hfr
    go_wp2
    go_loopw [3,5] (fun nv jv w2=>∃ (j:Nat) (m:Int),j≤300∧j≤n∧jv = .int .i64 j∧nv = .int .i64 m∧Fr N0 W w2) (fun _ jv _=>300 - (intOf jv).toNat)
    case atStart=>exact⟨0,_,by omega,by omega,rfl,rfl,HF.out⟩
    case round=>
     clear c1
     obtain⟨j,m2,hj,hjn,rfl,rfl,hfr2⟩:=hrel
     have c1:=hfr2.cell id C1.out
     by_cases hjl:j < n
     ·by_cases hj3:j < 300
      ·obtain rfl:=w3 (by omega)
       have hy:j < ys.length:=by rw[HN.out];exact hjl
       obtain⟨d0,d1,d2,d3,d4,d5,d6,d7⟩:=wr_cells (W:=W) (HW5.out j hy)
       obtain⟨y,hye⟩:∃ y,ys[j]=y:=⟨_,rfl⟩
       rw[hye] at d2 d6
       obtain⟨yd,yu,yp,⟨vk,vb,vn,vs,vu⟩⟩:=y
       simp only at d2 d6
       replace d2:=hfr2.cell id d2;replace d6:=hfr2.cell id d6
       have hji:(j:Int) < (n:Int):=by omega
       have hj3':(j:Int) < 300:=by omega
       have HF2:=hhd hfr2
       clear d0 d1 d3 d4 d5 d7 hye hfr2
       go_wp2
       go_quiet (fail)
       go_wp2
       go_roundw
       case rel=>exact⟨j+1,_,by omega,by omega,by go_num,rfl,HF2.out.drewN _⟩
       case measure=>simp [intOf];omega
      ·have hji:(j:Int) < (n:Int):=by omega
       have hj3':¬(j:Int) < 300:=by omega
       go_wp2
       go_roundw
       case rel=>exact⟨k+1,_,by omega,by omega,by go_num,rfl,hfr2⟩
       case measure=>simp [intOf];omega
     ·have hji:¬(j:Int) < (n:Int):=by omega
      go_wp2
      go_roundw
      case rel=>exact⟨k+1,_,by omega,by omega,by go_num,rfl,hfr2⟩
      case measure=>simp [intOf];omega
   ·have hki:(k:Int) < (L:Int):=by omega
    have hk3:¬(k:Int) < 100:=by omega
    by_cases h20:L≤20
    ·omega
    ·have h20':¬(L:Int)≤20:=by omega
     go_wp2
     go_ret
     exact⟨⟨false,rfl,fun h=>by cases h⟩,hfr⟩
  ·have hki:¬(k:Int) < (L:Int):=by omega
   obtain rfl:k=L:=by omega
   by_cases h20:k≤20
   ·have h20':(k:Int)≤20:=by omega
    go_wp2
    go_ret
    exact⟨⟨_,rfl,fun _=>h20⟩,hfr⟩
   ·have h20':¬(k:Int)≤20:=by omega
    go_wp2
    go_ret
    exact⟨⟨false,rfl,fun h=>by cases h⟩,hfr⟩
end
section
open Go.RowKit Go.Shelf Go.Deep
section
variable {H:Type} {enc:TypeId × Value→H} {w:World} {base:Nat} {sp:Nat→Bool} {held:Bool}
theorem open_cmg{fuel:Nat}{cs:List Value}{x:DataW H × List MemPlace}(h:DataW.trod enc Tryz.prog w base sp held fuel 80 cs=some x):∃ s:CmV,cs=s.enc∧CmGood w s:=by
 obtain⟨xs,n,-,-,hl,hlen,hf⟩:=DataW.trod_struct Tryz.underlying80 h
 rw[cells_Commit] at hl
 match cs,hl with
 | [c0,c1],_=>
  obtain⟨_,g0⟩:=fld hlen hf 0 rfl cells_u64
  obtain⟨_,g1⟩:=fld hlen hf 1 rfl cells_writes
  obtain⟨s0,e0,-,w0⟩:=DataW.trod_int Tryz.underlying33 g0
  obtain⟨b1,v1,l1,e1,r1,o1⟩:=open_rowsK (n:=8) (by decide) (fun _=>rfl) (fun s:Wr=>s.ok∧s.pred.size≤maxLen) Tryz.underlying34 cells_Write (fun _ _ _ h=>open_wr h) g1
  simp at e0 e1
  have r2:=r1
  obtain⟨a,o,c,rfl,-⟩:=r2
  subst e0 e1
  exact⟨⟨s0,a,l1.length,c⟩,rfl,w0,b1,l1,r1,fun y hy=>(o1 y hy).1⟩
theorem open_cms{fuel:Nat}{cs:List Value}{x:DataW H × List MemPlace}(h:DataW.trod enc Tryz.prog w base sp held fuel 36 cs=some x):∃ b v l,cs = [v]∧Cms w b v l:=by
 obtain⟨b,v,l,e,hR,hG⟩:=open_rowsK (ec:=CmV.enc) (n:=2) (by decide) (fun _=>rfl) (CmGood w) Tryz.underlying36 cells_Commit (fun _ _ _ h=>open_cmg h) h
 exact⟨b,v,l,e,hR,hG⟩
end
end
end Go.Proofs.YtefepfiijoafbaaGreat
