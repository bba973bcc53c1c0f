/- FndC FndD FndE Finders FindR FindS Fits0 FitA FitB -/
import Derived.BigQuiet
import Derived.Deep.DrawnRows
import Derived.Deep.RegionHeld3
import Derived.Deep.RegionLaw
import Derived.Test.YtefepfiijoafbaaGreatQFndB
import Derived.Test.YtefepfiijoafbaaGreatQValR
import Derived.Test.YtefepfiijoafbaaGreatQVOrd3
import Derived.Test.YtefepfiijoafbaaGreatQIMay2
import Derived.Test.YtefepfiijoafbaaGreatQBS
set_option linter.unusedVariables false
set_option linter.unusedSimpArgs false
set_option maxRecDepth 100000
set_option maxHeartbeats 4000000
namespace Go.Proofs.YtefepfiijoafbaaGreat
section
open Go.RowKit Go.Shelf Go.Maps Go.Sort
attribute [local go_sem] Oper.semAt_some
attribute [local irreducible] wpQuiet
theorem vals_at{W:World}{b:Nat}{vv:Value}{l:List Val}(h:RowsK Val.enc 5 W b vv l)(i:Nat){x:Val}(hi:l[i]?=some x):∃ off cap,vv = .slice (some ⟨b,off,none⟩) l.length cap∧W.cell? ⟨b,off+i * 5+2,none⟩=some (.int .i64 x.n):=by
 obtain⟨a,off,cap,rfl,-,-,k3,-,k5⟩:=h
 have h0:i < l.length:=by
  rcases Nat.lt_or_ge i l.length with e | e
  ·exact e
  ·rw[List.getElem?_eq_none e] at hi;cases hi
 obtain rfl:=k3 (by omega)
 have e0:l[i]=x:=by rw[List.getElem?_eq_getElem h0] at hi;exact Option.some.inj hi
 have:=k5 i h0 2 (by decide)
 rw[e0] at this
 exact⟨off,cap,rfl,by simpa [Val.enc] using this⟩
def btwP(v0 v1:Val)(x:Val):Bool:=decide (v0.n≤x.n) && decide (x.n≤v1.n)
theorem fBtw1_any(W:World)(bf b:Nat)(f:Fn)(vv uv sv:Value)(x v0 v1:Val)(hf:FnAt W b f vv uv sv)(hv0:f.vals[0]?=some v0)(hv1:f.vals[1]?=some v1)(hb:W.heap[bf]?=some (.cells (f.enc vv uv sv) 94 (0,0))) :
  Calls Tryz.prog 176 #[.agg x.enc.toArray,.pointer (some ⟨bf,0,none⟩)] W fun e w'=>e = .returned (.bool (btwP v0 v1 x))∧Fr N0 W w':=by
 obtain⟨off,cap,rfl,c0⟩:=vals_at hf.vals 0 hv0
 obtain⟨off',cap',e,c1⟩:=vals_at hf.vals 1 hv1
 simp only [Value.slice.injEq,Option.some.injEq,Addr.mk.injEq,true_and,and_true] at e
 obtain⟨rfl,rfl⟩:=e
 have hl2:1 < f.vals.length:=by
  rcases Nat.lt_or_ge 1 f.vals.length with e | e
  ·exact e
  ·rw[List.getElem?_eq_none e] at hv1;cases hv1
 obtain⟨a0,h0⟩:∃ n,v0.n=n:=⟨_,rfl⟩
 obtain⟨a1,h1⟩:∃ n,v1.n=n:=⟨_,rfl⟩
 unfold btwP
 rw[h0] at c0 ⊢;rw[h1] at c1 ⊢
 obtain⟨kd,pred,back,vals,nu,ns⟩:=f
 obtain⟨zk,zb,zn,zs,zu⟩:=x
 simp only [Val.enc,Fn.enc] at hb ⊢
 obtain⟨m,hm⟩:∃ m,vals.length=m:=⟨_,rfl⟩
 simp only [hm] at hb hl2 ⊢
 have hm1:(1:Int) < (m:Int):=by omega
 have hm0:(0:Int) < (m:Int):=by omega
 have hfa:=(Fr.refl N0 W).alloc (.cells #[.int .u8 zk,.bool zb,.int .i64 zn,.string zs,.int .u64 zu] 57)
 have hb2:=(hfa.at (k:=bf) id (lt_of_block hb)).trans hb
 obtain⟨m1,n1,l1⟩:=box_cells hb2
 simp only [Nat.zero_mul,Nat.add_zero,Nat.one_mul] at c0 c1
 replace c0:=hfa.cell id c0
 replace c1:=hfa.cell id c1
 clear hf hb hb2 hfa hv0 hv1 hm h0 h1
 by_cases h2:a0≤zn
 ·have h2':zn ≥ a0:=h2
  go_enter Tryz.func176,Tryz.ntmps176
  go_wp2
  go_quiet (fail)
  go_wp2
  (try go_ret)
  exact⟨by simp [h2],((Fr.refl _ _).alloc _).drewN _⟩
 ·have h2':¬ zn ≥ a0:=h2
  have h3:decide (zn ≥ a0)=false:=by simpa using h2
  have h4:decide (a0≤zn)=false:=by simpa using h2
  clear c1
  go_enter Tryz.func176,Tryz.ntmps176
  go_wp2
  go_quiet (fail)
  go_wp2
  (try go_ret)
  exact⟨by rw[h4];rfl,((Fr.refl _ _).alloc _).drewN _⟩
theorem fBtw_any(W:World)(lo px bn bb N:Nat)(H:Int→List Val)(B:Int→List Int)(h:LookAt W lo px bn bb N H B)(hH:HOk H N)(hN:N≤9000000000)(f:Fn)(vv uv sv:Value)(b:Nat)(hf:FnAt W b f vv uv sv)(v0 v1:Val)(hv0:f.vals[0]?=some v0)(hv1:f.vals[1]?=some v1) :
  Calls Tryz.prog 175 #[.pointer (some ⟨px,0,none⟩),.agg (f.enc vv uv sv)] W (NewInts W (anyP H (btwP v0 v1))):=by
 have hm:=fun W1 (hW:Fr N0 W W1) bf (hb:W1.heap[bf]?=some (.cells (f.enc vv uv sv) 94 (0,0)))=>(where_any W1 lo px bn bb N H B (h.fr hW) hH hN 176 #[.pointer (some ⟨bf,0,none⟩)] (btwP v0 v1)
  (fun u x hx W2 hW2=>fBtw1_any W2 bf b f vv uv sv x v0 v1 (hf.fr (hW.then0 hW2)) hv0 hv1 ((hW2.at id (lt_of_block hb)).trans hb)) enters_fBtw1).mono fun e w2 hh=>NewInts.from hh hW
 obtain⟨Q,hQ⟩:∃ Q,NewInts W (anyP H (btwP v0 v1))=Q:=⟨_,rfl⟩
 have hm2:∀ W1,Fr N0 W W1→∀ bf,W1.heap[bf]?=some (.cells (f.enc vv uv sv) 94 (0,0))→Calls Tryz.prog 159 #[.pointer (some ⟨px,0,none⟩),.func (.func 176) #[] #[.pointer (some ⟨bf,0,none⟩)]] W1 fun e w2=>Q e w2∧∃ v,e = .returned v:=fun W1 hW bf hb=>(hm W1 hW bf hb).mono fun e w2 hh=>⟨by rw[← hQ];exact hh,by obtain⟨v,xs,h1,-⟩:=hh;exact⟨v,h1⟩⟩
 rw[hQ]
 obtain⟨kd,pred,back,vals,nu,ns⟩:=f
 simp only [Fn.enc] at hm2 ⊢
 have HM:=hhd hm2
 clear hm hm2 h hQ hf
 go_enter Tryz.func175,Tryz.ntmps175
 go_wp2_with (go_at_call 159;refine(HM.out _ ((Fr.refl _ _).alloc _) _ (World.alloc_heap_new W _)).mono ?_;rintro e w1 ⟨hq,v,rfl⟩)
 (try go_ret)
 exact hq
theorem fLt_any(a b:Int)(W:World):Calls Tryz.prog 171 #[.int .i64 a,.int .i64 b] W fun e w'=>e = .returned (.bool (decide (a < b)))∧w'=W:=by
 go_enter Tryz.func171,Tryz.ntmps171
 go_wp2
 go_ret
 exact⟨rfl,rfl⟩
theorem fLe_any(a b:Int)(W:World):Calls Tryz.prog 172 #[.int .i64 a,.int .i64 b] W fun e w'=>e = .returned (.bool (decide (a≤b)))∧w'=W:=by
 go_enter Tryz.func172,Tryz.ntmps172
 go_wp2
 go_ret
 exact⟨rfl,rfl⟩
theorem fGt_any(a b:Int)(W:World):Calls Tryz.prog 173 #[.int .i64 a,.int .i64 b] W fun e w'=>e = .returned (.bool (decide (b < a)))∧w'=W:=by
 go_enter Tryz.func173,Tryz.ntmps173
 go_wp2
 go_ret
 exact⟨rfl,rfl⟩
theorem fGe_any(a b:Int)(W:World):Calls Tryz.prog 174 #[.int .i64 a,.int .i64 b] W fun e w'=>e = .returned (.bool (decide (b≤a)))∧w'=W:=by
 go_enter Tryz.func174,Tryz.ntmps174
 go_wp2
 go_ret
 exact⟨rfl,rfl⟩
theorem enters_fCmp2:∀ args w,(callFunc 160 args).run Tryz.prog w = .ok (.enter 160 args) w:=enters_of Tryz.func160 (by kernel_rfl) rfl
theorem enters_fLt:∀ args w,(callFunc 171 args).run Tryz.prog w = .ok (.enter 171 args) w:=enters_of Tryz.func171 (by kernel_rfl) rfl
theorem enters_fLe:∀ args w,(callFunc 172 args).run Tryz.prog w = .ok (.enter 172 args) w:=enters_of Tryz.func172 (by kernel_rfl) rfl
theorem enters_fGt:∀ args w,(callFunc 173 args).run Tryz.prog w = .ok (.enter 173 args) w:=enters_of Tryz.func173 (by kernel_rfl) rfl
theorem enters_fGe:∀ args w,(callFunc 174 args).run Tryz.prog w = .ok (.enter 174 args) w:=enters_of Tryz.func174 (by kernel_rfl) rfl
theorem fCmp2_any(W:World)(bc bf b:Nat)(f:Fn)(vv uv sv:Value)(x v0:Val)(gf:FuncId)(c:Int→Int→Bool)(hg:∀ a b W,Calls Tryz.prog gf #[.int .i64 a,.int .i64 b] W fun e w'=>e = .returned (.bool (c a b))∧w'=W)
  (eg:∀ args w,(callFunc gf args).run Tryz.prog w = .ok (.enter gf args) w) (hf:FnAt W b f vv uv sv) (hv0:f.vals[0]?=some v0) (hb:W.heap[bf]?=some (.cells (f.enc vv uv sv) 94 (0,0))) (hbc:W.heap[bc]?=some (.cells #[.func (.func gf) #[] #[]] 234 (0,0))) :
  Calls Tryz.prog 160 #[.agg x.enc.toArray,.pointer (some ⟨bc,0,none⟩),.pointer (some ⟨bf,0,none⟩)] W fun e w'=>e = .returned (.bool (c x.n v0.n))∧Fr N0 W w':=by
 obtain⟨off,cap,rfl,c0⟩:=vals_at hf.vals 0 hv0
 have hl2:0 < f.vals.length:=by
  rcases Nat.lt_or_ge 0 f.vals.length with e | e
  ·exact e
  ·rw[List.getElem?_eq_none e] at hv0;cases hv0
 obtain⟨a0,h0⟩:∃ n,v0.n=n:=⟨_,rfl⟩
 rw[h0] at c0 ⊢
 obtain⟨kd,pred,back,vals,nu,ns⟩:=f
 obtain⟨zk,zb,zn,zs,zu⟩:=x
 simp only [Val.enc,Fn.enc] at hb ⊢
 obtain⟨m,hm⟩:∃ m,vals.length=m:=⟨_,rfl⟩
 simp only [hm] at hb hl2 ⊢
 have hm0:(0:Int) < (m:Int):=by omega
 have hfa:=(Fr.refl N0 W).alloc (.cells #[.int .u8 zk,.bool zb,.int .i64 zn,.string zs,.int .u64 zu] 57)
 have hb2:=(hfa.at (k:=bf) id (lt_of_block hb)).trans hb
 have hc2:=cell_of_one ((hfa.at (k:=bc) id (lt_of_block hbc)).trans hbc)
 obtain⟨m1,n1,l1⟩:=box_cells hb2
 simp only [Nat.zero_mul,Nat.add_zero] at c0
 replace c0:=hfa.cell id c0
 have HG:=hhd hg
 clear hf hb hb2 hfa hv0 hm h0 hg hbc
 go_enter Tryz.func160,Tryz.ntmps160
 go_wp2
 go_quiet (exact Calls.quiet_of_same (HG.out _ _ _))
 go_wp2
 (try go_ret)
 exact⟨rfl,((Fr.refl _ _).alloc _).drewN _⟩
def cmpP(c:Int→Int→Bool)(v0:Val)(x:Val):Bool:=c x.n v0.n
theorem fCmp1_any(W:World)(lo px bn bb N bc:Nat)(H:Int→List Val)(B:Int→List Int)(h:LookAt W lo px bn bb N H B)(hH:HOk H N)(hN:N≤9000000000)(f:Fn)(vv uv sv:Value)(b:Nat)(hf:FnAt W b f vv uv sv)(v0:Val)(hv0:f.vals[0]?=some v0)
  (gf:FuncId) (c:Int→Int→Bool) (hg:∀ a b W,Calls Tryz.prog gf #[.int .i64 a,.int .i64 b] W fun e w'=>e = .returned (.bool (c a b))∧w'=W)
  (eg:∀ args w,(callFunc gf args).run Tryz.prog w = .ok (.enter gf args) w) (hbc:W.heap[bc]?=some (.cells #[.func (.func gf) #[] #[]] 234 (0,0))) :
  Calls Tryz.prog 158 #[.pointer (some ⟨px,0,none⟩),.agg (f.enc vv uv sv),.pointer (some ⟨bc,0,none⟩)] W (NewInts W (anyP H (cmpP c v0))):=by
 have hm:=fun W1 (hW:Fr N0 W W1) bf (hb:W1.heap[bf]?=some (.cells (f.enc vv uv sv) 94 (0,0)))=>(where_any W1 lo px bn bb N H B (h.fr hW) hH hN 160 #[.pointer (some ⟨bc,0,none⟩),.pointer (some ⟨bf,0,none⟩)] (cmpP c v0)
  (fun u x hx W2 hW2=>fCmp2_any W2 bc bf b f vv uv sv x v0 gf c hg eg (hf.fr (hW.then0 hW2)) hv0 ((hW2.at id (lt_of_block hb)).trans hb) (((hW.then0 hW2).at id (lt_of_block hbc)).trans hbc)) enters_fCmp2).mono fun e w2 hh=>NewInts.from hh hW
 obtain⟨Q,hQ⟩:∃ Q,NewInts W (anyP H (cmpP c v0))=Q:=⟨_,rfl⟩
 have hm2:∀ W1,Fr N0 W W1→∀ bf,W1.heap[bf]?=some (.cells (f.enc vv uv sv) 94 (0,0))→Calls Tryz.prog 159 #[.pointer (some ⟨px,0,none⟩),.func (.func 160) #[] #[.pointer (some ⟨bc,0,none⟩),.pointer (some ⟨bf,0,none⟩)]] W1 fun e w2=>Q e w2∧∃ v,e = .returned v:=fun W1 hW bf hb=>(hm W1 hW bf hb).mono fun e w2 hh=>⟨by rw[← hQ];exact hh,by obtain⟨v,xs,h1,-⟩:=hh;exact⟨v,h1⟩⟩
 rw[hQ]
 obtain⟨kd,pred,back,vals,nu,ns⟩:=f
 simp only [Fn.enc] at hm2 ⊢
 have HM:=hhd hm2
 clear hm hm2 h hQ hf hg hbc eg
 go_enter Tryz.func158,Tryz.ntmps158
 go_wp2_with (go_at_call 159;refine(HM.out _ ((Fr.refl _ _).alloc _) _ (World.alloc_heap_new W _)).mono ?_;rintro e w1 ⟨hq,v,rfl⟩)
 (try go_ret)
 exact hq
theorem enters_fCmp:∀ args w,(callFunc 157 args).run Tryz.prog w = .ok (.enter 157 args) w:=enters_of Tryz.func157 (by kernel_rfl) rfl
theorem fCmp_any(g:Value)(hg:g.oneCell'=true)(hc:g.cells=#[g])(W:World):Calls Tryz.prog 157 #[g] W fun e w'=>e = .returned (.func (.func 158) #[] #[.pointer (some ⟨W.heap.size,0,none⟩)])∧w'=W.alloc (.cells #[g] 234):=by
 go_enter Tryz.func157,Tryz.ntmps157
 go_wp2
 go_ret
 exact⟨rfl,rfl⟩
theorem lawK:Keyed Tryz.prog 82:=int_keyed Tryz.underlying82
def litK(k:Int):Lit:=.int .u8 k
structure FSt(W0:World)(bm n:Nat)(F:Lit→Option Value)(L:List (Nat × Value))(w:World):Prop where
 map:MapF Tryz.prog 82 w bm n F
 box:∀ p ∈ L,p.1≠bm∧w.heap[p.1]?=some (.cells #[p.2] 234 (0,0))
 fr:Fr N0 W0 w
 lo:W0.heap.size≤bm
theorem FSt.start(W:World):FSt W W.heap.size 0 (fun _=>none) [] (W.alloc (.map #[] 0)):=⟨MapF.made W Tryz.prog 82,fun p hp=>(by cases hp),(Fr.refl _ _).alloc _,Nat.le_refl _⟩
theorem FSt.put{W0 w w':World}{bm n m:Nat}{F G:Lit→Option Value}{L:List (Nat × Value)}(h:FSt W0 bm n F L w)(hm:MapF Tryz.prog 82 w' bm m G)(hf:Fr (fun j=>j=bm) w w'):FSt W0 bm m G L w' where
 map:=hm
 box:=fun p hp=>⟨(h.box p hp).1,(hf.at (h.box p hp).1 (lt_of_block (h.box p hp).2)).trans (h.box p hp).2⟩
 fr:=h.fr.trans hf fun k hk=>.inr (by have:=h.lo;omega)
 lo:=h.lo
theorem FSt.lay{W0 w w':World}{bm n:Nat}{F:Lit→Option Value}{L:List (Nat × Value)}{g:Value}(h:FSt W0 bm n F L w)(hw:w'=w.alloc (.cells #[g] 234)):FSt W0 bm n F ((w.heap.size,g) :: L) w':=by
 subst hw
 have hf:Fr N0 w (w.alloc (.cells #[g] 234)):=(Fr.refl _ _).alloc _
 refine⟨h.map.fr hf id,fun p hp=>?_,h.fr.then0 hf,h.lo⟩
 rcases List.mem_cons.1 hp with rfl | hp
 ·exact⟨by have:=h.map.lt;simp only;omega,World.alloc_heap_new w _⟩
 ·exact⟨(h.box p hp).1,(hf.at id (lt_of_block (h.box p hp).2)).trans (h.box p hp).2⟩
structure Finders(w:World)(bm:Nat)(F:Lit→Option Value):Prop where
 map:MapF Tryz.prog 82 w bm 10 F
 has:F (litK 2)=some (.func (.func 161) #[] #[])
 cnt:F (litK 11)=some (.func (.func 163) #[] #[])
 eq:F (litK 3)=some (.func (.func 164) #[] #[])
 any:F (litK 4)=some (.func (.func 166) #[] #[])
 all:F (litK 5)=some (.func (.func 169) #[] #[])
 btw:F (litK 10)=some (.func (.func 175) #[] #[])
 cmp:∀ k gf,(k,gf) ∈ [((6:Int),171),(7,172),(8,173),(9,174)]→∃ bc,F (litK k)=some (.func (.func 158) #[] #[.pointer (some ⟨bc,0,none⟩)])∧w.heap[bc]?=some (.cells #[.func (.func gf) #[] #[]] 234 (0,0))
theorem FSt.store{W0 w:World}{bm n:Nat}{F:Lit→Option Value}{L:List (Nat × Value)}(h:FSt W0 bm n F L w)(hn:n < 100)(k:Int)(hk:(Lit.int .u8 k).wf=true)(v:Value) :
  ∃ w',(Instr.mapUpdate 193 (.map (some bm)) (.int .u8 k) v).run Tryz.prog w = .ok () w'∧FSt W0 bm (n+1) (putF F (litK k) (some v)) L w':=by
 obtain⟨w',r,m,f⟩:=h.map.store lawK Tryz.underlying193 (by unfold maxLen;omega) (keyOf_int_mk Tryz.underlying82 hk) v
 exact⟨w',r,h.put m f⟩
theorem finders_any(W:World):Calls Tryz.prog 108 #[] W fun e w'=>∃ bm F,e = .returned (.map (some bm))∧Finders w' bm F∧Fr N0 W w':=by
 have hmm:=@run_makeMap Tryz.prog
 have eg:=enters_fCmp
 obtain⟨w1,r1,s1⟩:=(FSt.start W).store (by omega) 2 (by decide) (.func (.func 161) #[] #[])
 obtain⟨w2,r2,s2⟩:=(s1).store (by omega) 11 (by decide) (.func (.func 163) #[] #[])
 obtain⟨w3,r3,s3⟩:=(s2).store (by omega) 3 (by decide) (.func (.func 164) #[] #[])
 obtain⟨w4,r4,s4⟩:=(s3).store (by omega) 4 (by decide) (.func (.func 166) #[] #[])
 obtain⟨w5,r5,s5⟩:=(s4).store (by omega) 5 (by decide) (.func (.func 169) #[] #[])
 have t5:=s5.lay (g:=.func (.func 171) #[] #[]) rfl
 obtain⟨w6,r6,s6⟩:=t5.store (by omega) 6 (by decide) (.func (.func 158) #[] #[.pointer (some ⟨w5.heap.size,0,none⟩)])
 have t6:=s6.lay (g:=.func (.func 172) #[] #[]) rfl
 obtain⟨w7,r7,s7⟩:=t6.store (by omega) 7 (by decide) (.func (.func 158) #[] #[.pointer (some ⟨w6.heap.size,0,none⟩)])
 have t7:=s7.lay (g:=.func (.func 173) #[] #[]) rfl
 obtain⟨w8,r8,s8⟩:=t7.store (by omega) 8 (by decide) (.func (.func 158) #[] #[.pointer (some ⟨w7.heap.size,0,none⟩)])
 have t8:=s8.lay (g:=.func (.func 174) #[] #[]) rfl
 obtain⟨w9,r9,s9⟩:=t8.store (by omega) 9 (by decide) (.func (.func 158) #[] #[.pointer (some ⟨w8.heap.size,0,none⟩)])
 obtain⟨w10,r10,s10⟩:=s9.store (by omega) 10 (by decide) (.func (.func 175) #[] #[])
 have HS:=hhd s10
 clear s1 s2 s3 s4 s5 s6 s7 s8 s9 s10 t5 t6 t7 t8
 go_enter Tryz.func108,Tryz.ntmps108
 go_wp2_with (go_at_call 157;refine(fCmp_any _ rfl rfl _).mono ?_;rintro e w1 ⟨rfl,rfl⟩)
 (try go_ret)
 refine⟨_,_,rfl,⟨HS.out.map,?_,?_,?_,?_,?_,?_,?_⟩,HS.out.fr⟩
 iterate 6 (simp [putF,litK])
 intro k gf hk
 simp only [List.mem_cons,Prod.mk.injEq,List.not_mem_nil,or_false] at hk
 rcases hk with⟨rfl,rfl⟩ | ⟨rfl,rfl⟩ | ⟨rfl,rfl⟩ | ⟨rfl,rfl⟩
 ·exact⟨w5.heap.size,by simp [putF,litK],(HS.out.box (w5.heap.size,_) (by simp)).2⟩
 ·exact⟨w6.heap.size,by simp [putF,litK],(HS.out.box (w6.heap.size,_) (by simp)).2⟩
 ·exact⟨w7.heap.size,by simp [putF,litK],(HS.out.box (w7.heap.size,_) (by simp)).2⟩
 ·exact⟨w8.heap.size,by simp [putF,litK],(HS.out.box (w8.heap.size,_) (by simp)).2⟩
end
section
open Go.RowKit Go.Shelf Go.Maps
attribute [local go_sem] Oper.semAt_some
attribute [local go_sem ↓] Go.wp_at_zero Go.wp_at_succ
attribute [local irreducible] wpQuiet
noncomputable def fdB(n:Nat):Code:=lvSuf n ((Tryz.f41.body).getD .skip)
theorem zeroFnR:∀ w,(zeroValue 192).run Tryz.prog w = .ok .nilFunc w:=fun w=>by kernel_rfl
theorem finder_look{w:World}{bm:Nat}{F:Lit→Option Value}(h:Finders w bm F){k:Int}(hk:(Lit.int .u8 k).wf=true){v:Value}(hF:F (litK k)=some v) :
  (Instr.lookup 193 (.map (some bm)) (.int .u8 k) false).run Tryz.prog w = .ok v w:=by
 have:=(h.map.look lawK Tryz.underlying193 (zeroFnR w) (keyOf_int_mk Tryz.underlying82 hk)).1
 rw[show(Lit.int .u8 k)=litK k from rfl,hF] at this
 exact this
theorem Finders.fr{w w':World}{bm:Nat}{F:Lit→Option Value}(h:Finders w bm F)(hf:Fr N0 w w'):Finders w' bm F:=
 ⟨h.map.fr hf id,h.has,h.cnt,h.eq,h.any,h.all,h.btw,fun k gf hk=>by obtain⟨bc,h1,h2⟩:=h.cmp k gf hk;exact⟨bc,h1,(hf.at id (lt_of_block h2)).trans h2⟩⟩
theorem fdR3{K:Act→World→Prop}{Q:Exit→Act→World→Prop}(W:World)(f:Nat→Value)(p B:Nat)(S:Sch)(kd:Int)(pred:ByteArray)(back:Bool)(vv uv sv:Value)(E:Int)
  (h0:f 0 = .pointer (some ⟨p,0,none⟩)) (h4:f 4 = .pointer (some ⟨B,0,none⟩)) (hB:BoxB B #[.int .u8 kd,.string pred,.bool back,vv,uv,sv] W)
  (hS:∀ W',Fr N0 W W'→Calls Tryz.prog 81 #[.pointer (some ⟨p,0,none⟩)] W' fun e w'=>e = .returned (.agg S.enc.toArray)∧Fr N0 W' w')
  (hF:∀ W',Fr N0 W W'→Calls Tryz.prog 39 #[.agg S.enc.toArray,.agg #[.int .u8 kd,.string pred,.bool back,vv,uv,sv]] W' fun e w'=>e = .returned (.int .i64 E)∧Fr N0 W' w')
  (hK:∀ f' W',f' 0=f 0→f' 2=f 2→f' 4=f 4→f' 8 = .int .i64 E→Fr N0 W W'→K (frA 33 f') W') :
  Code.wp Tryz.prog (lvFst (lvFst (fdB 2))) (Exit.then K Q) (frA 33 f) W:=by
 obtain⟨sp,st,sl,se,sm,so,sr,sc⟩:=S
 simp only [Sch.enc] at hS hF
 have HS:=hhd hS;have HF:=hhd hF;have HK:=hhd hK;have HB:=hhd hB
 obtain⟨mb,lb⟩:=hB
 clear hS hF hK
 obtain⟨f2,hf2⟩:∃ x,f 2=x:=⟨_,rfl⟩
 have HK2:=HK.out
 simp only [h0,h4,hf2] at HK2
 have HKK:=hhd HK2
 clear HK HK2
 show Code.wp _ _ _ { tmps:=#[f 0,f 1,f 2,f 3,f 4,f 5,f 6,f 7,f 8,f 9,f 10,f 11,f 12,f 13,f 14,f 15,f 16,f 17,f 18,f 19,f 20,f 21,f 22,f 23,f 24,f 25,f 26,f 27,f 28,f 29,f 30,f 31,f 32],defers:=[] } _
 rw[h0,h4,hf2]
 clear h0 h4 hf2
 conv=>arg 2;whnf
 have HBD:=hhd (boxB_keep (Fr.refl N0 W).drew id HB.out)
 clear HB
 go_region_held3 (BoxB B #[.int .u8 kd,.string pred,.bool back,vv,uv,sv]) (first
  |(with_reducible assumption)
  |(with_reducible exact HBD.out)
  |(with_reducible exact hb3)
  |(with_reducible exact hb4)
  | fail) (first
  |(go_simp;go_at_call 81;refine(HS.out _ (Fr.refl N0 W).drew).mono ?_;rintro e w3 ⟨rfl,hf3⟩;have hfw3:Fr N0 W w3:=(Fr.refl N0 W).drew.then0 hf3;have hb3:=boxB_keep hf3 id HBD.out)
  |(go_simp;go_at_call 39;refine(HF.out _ hfw3).mono ?_;rintro e w4 ⟨rfl,hf4⟩;have hfw4:=hfw3.then0 hf4;have hb4:=boxB_keep hf4 id hb3)
  | fail)
 all_goals
  refine cut_use (n:=33) (K:=K) _ rfl ?_
  exact HKK.out _ _ rfl rfl rfl rfl hfw4
theorem fdR8{K:Act→World→Prop}{Q:Exit→Act→World→Prop}(W:World)(f:Nat→Value)(p B:Nat)(t:Int)(kd:Int)(pred:ByteArray)(back:Bool)(vv uv sv:Value)(G:Nat→World→Prop)(PP:Value→World→Prop)(gf:FuncId)
  (hkd:(Lit.int .u8 kd).wf=true) (eg:∀ args w,(callFunc gf args).run Tryz.prog w = .ok (.enter gf args) w)
  (h0:f 0 = .pointer (some ⟨p,0,none⟩)) (h2:f 2 = .int .u64 t) (h4:f 4 = .pointer (some ⟨B,0,none⟩)) (hB:BoxB B #[.int .u8 kd,.string pred,.bool back,vv,uv,sv] W)
  (hA:∀ W',Fr N0 W W'→Calls Tryz.prog 83 #[.pointer (some ⟨p,0,none⟩),.int .u64 t] W' fun e w'=>∃ px,e = .returned (.pointer (some ⟨px,0,none⟩))∧G px w'∧Fr N0 W' w')
  (hC:∀ w3 bm F,Fr N0 W w3→Finders w3 bm F→∃ lb,F (litK kd)=some (.func (.func gf) #[] lb)∧∀ w4 px,Fr N0 w3 w4→G px w4 →
   Calls Tryz.prog gf (#[.pointer (some ⟨px,0,none⟩),.agg #[.int .u8 kd,.string pred,.bool back,vv,uv,sv]] ++ lb) w4 fun e w'=>∃ v,e = .returned v∧PP v w'∧Fr N0 w4 w')
  (hK:∀ f' W' v,f' 6=v→f' 7 = .int .i64 0→PP v W'→K (frA 33 f') W') :
  Code.wp Tryz.prog (lvFst (fdB 4)) (Exit.then K Q) (frA 33 f) W:=by
 have HA:=hhd hA;have HC:=hhd hC;have HK:=hhd hK;have HB:=hhd hB;have HKD:=hhd hkd
 obtain⟨mb,lb0⟩:=hB
 clear hA hC hK hkd
 show Code.wp _ _ _ { tmps:=#[f 0,f 1,f 2,f 3,f 4,f 5,f 6,f 7,f 8,f 9,f 10,f 11,f 12,f 13,f 14,f 15,f 16,f 17,f 18,f 19,f 20,f 21,f 22,f 23,f 24,f 25,f 26,f 27,f 28,f 29,f 30,f 31,f 32],defers:=[] } _
 rw[h0,h2,h4]
 clear h0 h2 h4
 conv=>arg 2;whnf
 have HBD:=hhd (boxB_keep (Fr.refl N0 W).drew id HB.out)
 clear HB
 go_region_held3 (BoxB B #[.int .u8 kd,.string pred,.bool back,vv,uv,sv]) (first
  |(with_reducible assumption)
  |(with_reducible exact HBD.out)
  |(with_reducible exact hb3)
  |(with_reducible exact hb4)
  |(with_reducible exact hb5)
  | fail) (first
  |(go_simp;go_at_call 108;refine(finders_any _).mono ?_;rintro e w3 ⟨bm,F,rfl,hfd3,hf3⟩;have hfw3:Fr N0 W w3:=(Fr.refl N0 W).drew.then0 hf3;have hb3:=boxB_keep hf3 id HBD.out;obtain⟨lb,hF,hcall⟩:=HC.out w3 bm F hfw3 hfd3;have hlk3:=finder_look hfd3 HKD.out hF)
  |(go_simp;go_at_call 83;refine(HA.out _ hfw3).mono ?_;rintro e w4 ⟨px,rfl,hg4,hf4⟩;have hb4:=boxB_keep hf4 id hb3;have hlk4:=finder_look (hfd3.fr hf4) HKD.out hF)
  |(go_simp;refine(hcall w4 px hf4 hg4).mono ?_;rintro e w5 ⟨v5,rfl,hp5,hf5⟩;have hb5:=boxB_keep hf5 id hb4)
  | fail)
 all_goals
  refine cut_use (n:=33) (K:=K) _ rfl ?_
  exact HK.out _ _ _ rfl rfl hp5
end
section
open Go.RowKit Go.Shelf Go.Maps Go.Sort
attribute [local go_sem] Oper.semAt_some
attribute [local irreducible] wpQuiet
def fitOk(s:Sch)(f:Fn):Bool:=
 if f.kind=3 then s.ty ==((f.vals[0]?.map (·.k)).getD 0)
 else if f.kind=4∨f.kind=5 then s.ty == 3
 else if f.kind=6∨f.kind=7∨f.kind=8∨f.kind=9∨f.kind=10 then s.ty == 2
 else true
def fitIx(s:Sch)(f:Fn):Bool:=
 if f.kind=3 then s.exact_
 else if f.kind=4∨f.kind=5 then s.term
 else if f.kind=6∨f.kind=7∨f.kind=8∨f.kind=9∨f.kind=10 then s.order
 else if f.kind=11 then s.count
 else true
def fitR(ok ix back n4 rev:Bool):Int:=if !ok then 42 else if !ix ||(back &&(n4 || !rev)) then 191 else 0
noncomputable def fnFits(s:Sch)(f:Fn):Int:=
 if fnMay f≠0 then fnMay f else if schMay s≠0 then schMay s else if s.pred≠f.pred then 2
 else fitR (fitOk s f) (fitIx s f) f.back (s.ty != 4) s.rev
structure FitPre(w:World)(s:Sch)(f:Fn)(vv uv sv:Value):Prop where
 may:∀ w',Fr N0 w w'→Calls Tryz.prog 38 #[.agg (f.enc vv uv sv)] w' fun e w2=>e = .returned (.int .i64 (fnMay f))∧Fr N0 w' w2
 sch:∀ w',Fr N0 w w'→Calls Tryz.prog 91 #[.agg s.enc.toArray] w' fun e w2=>e = .returned (.int .i64 (schMay s))∧Fr N0 w' w2
theorem fit_pre{w:World}{s:Sch}{f:Fn}{vv uv sv:Value}{b:Nat}(h:FnAt w b f vv uv sv):FitPre w s f vv uv sv:=
 ⟨fun w' hf=>imay_any w' b f vv uv sv (h.fr hf),fun w' hf=>tSchema_any s w'⟩
theorem two_boxes{w w1:World}{cs ds:Array Value}{t t':TypeId}(hf:Fr N0 ((w.alloc (.cells cs t)).alloc (.cells ds t')) w1):w1.heap[w.heap.size]?=some (.cells cs t (0,0))∧w1.heap[w.heap.size+1]?=some (.cells ds t' (0,0)):=by
 have h1:=World.alloc_heap_new w (.cells cs t)
 have h2:=World.alloc_heap_new (w.alloc (.cells cs t)) (.cells ds t')
 rw[World.size_alloc] at h2
 have h3:=(Below.heap_alloc (w.alloc (.cells cs t)) (.cells ds t') _ (lt_of_block h1)).trans h1
 exact⟨(hf.at id (lt_of_block h3)).trans h3,(hf.at id (lt_of_block h2)).trans h2⟩
theorem ifits_no(w:World)(s:Sch)(f:Fn)(vv uv sv:Value)(h:FitPre w s f vv uv sv)(hno:fnMay f≠0∨schMay s≠0∨s.pred≠f.pred) :
  Calls Tryz.prog 39 #[.agg s.enc.toArray,.agg (f.enc vv uv sv)] w fun e w'=>e = .returned (.int .i64 (fnFits s f))∧Fr N0 w w':=by
 unfold fnFits
 obtain⟨m1,m2⟩:=h
 obtain⟨M,hM⟩:∃ M,fnMay f=M:=⟨_,rfl⟩
 obtain⟨S,hS⟩:∃ S,schMay s=S:=⟨_,rfl⟩
 simp only [hM,hS] at m1 m2 hno ⊢
 clear hM hS
 have HM:=hhd m1;have HS:=hhd m2
 clear m1 m2
 by_cases c1:M=0
 ·subst c1
  by_cases c2:S=0
  ·subst c2
   have c3:s.pred≠f.pred:=by simpa using hno
   rw[if_neg (by simp),if_neg (by simp),if_pos c3]
   obtain⟨sp,st,sl,se,sm,so,sr,sc⟩:=s
   obtain⟨kd,pred,back,vals,nu,ns⟩:=f
   simp only [Fn.enc,Sch.enc] at *
   have hb:(sp.toList != pred.toList)=true:=by
    rw[bne_iff_ne];intro e;exact c3 (by rw[ByteArray.toList_eq,ByteArray.toList_eq] at e;exact ByteArray.ext (Array.toList_inj.1 e))
   have hb2:(sp.toList == pred.toList)=false:=by simpa using hb
   have hb3:¬ sp.toList=pred.toList:=by simpa using hb
   clear c3 hno
   go_enter Tryz.func39,Tryz.ntmps39
   go_wp2_with (first
    |(go_at_call 38;refine(HM.out _ (((Fr.refl _ _).alloc _).alloc _)).mono ?_;rintro e w1 ⟨rfl,hf1⟩;obtain⟨b1,b2⟩:=two_boxes hf1;obtain⟨m1,n1,l1⟩:=box_cells b1;obtain⟨m2,n2,l2⟩:=box_cells b2;have hg1:=(((Fr.refl N0 w).alloc _).alloc _).then0 hf1)
    |(go_at_call 91;refine(HS.out _ hg1).mono ?_;rintro e w2 ⟨rfl,hf2⟩;obtain⟨b3,b4⟩:=two_boxes (hf1.then0 hf2);obtain⟨m3,n3,l3⟩:=box_cells b3;obtain⟨m4,n4,l4⟩:=box_cells b4))
   go_ret
   exact⟨rfl,hg1.then0 hf2⟩
  ·have hS1:(S != 0)=true:=by simpa using c2
   rw[if_neg (by simp),if_pos c2]
   obtain⟨sp,st,sl,se,sm,so,sr,sc⟩:=s
   obtain⟨kd,pred,back,vals,nu,ns⟩:=f
   simp only [Fn.enc,Sch.enc] at *
   clear c2 hno
   go_enter Tryz.func39,Tryz.ntmps39
   go_wp2_with (first
    |(go_at_call 38;refine(HM.out _ (((Fr.refl _ _).alloc _).alloc _)).mono ?_;rintro e w1 ⟨rfl,hf1⟩;obtain⟨b1,b2⟩:=two_boxes hf1;obtain⟨m1,n1,l1⟩:=box_cells b1;obtain⟨m2,n2,l2⟩:=box_cells b2;have hg1:=(((Fr.refl N0 w).alloc _).alloc _).then0 hf1)
    |(go_at_call 91;refine(HS.out _ hg1).mono ?_;rintro e w2 ⟨rfl,hf2⟩;obtain⟨b3,b4⟩:=two_boxes (hf1.then0 hf2);obtain⟨m3,n3,l3⟩:=box_cells b3;obtain⟨m4,n4,l4⟩:=box_cells b4))
   go_ret
   exact⟨rfl,hg1.then0 hf2⟩
 ·have hM1:(M != 0)=true:=by simpa using c1
  rw[if_pos c1]
  obtain⟨sp,st,sl,se,sm,so,sr,sc⟩:=s
  obtain⟨kd,pred,back,vals,nu,ns⟩:=f
  simp only [Fn.enc,Sch.enc] at *
  clear c1 hno
  go_enter Tryz.func39,Tryz.ntmps39
  go_wp2_with (go_at_call 38;refine(HM.out _ (((Fr.refl _ _).alloc _).alloc _)).mono ?_;rintro e w1 ⟨rfl,hf1⟩;obtain⟨b1,b2⟩:=two_boxes hf1;obtain⟨m1,n1,l1⟩:=box_cells b1;obtain⟨m2,n2,l2⟩:=box_cells b2;have hg1:=(((Fr.refl N0 w).alloc _).alloc _).then0 hf1)
  go_ret
  exact⟨rfl,hg1⟩
theorem ifits_2(w:World)(s:Sch)(back:Bool)(uv sv:Value)(vv:Value)
  (HM:Hid (∀ w',Fr N0 w w'→Calls Tryz.prog 38 #[.agg #[.int .u8 2,.string s.pred,.bool back,vv,uv,sv]] w' fun e w2=>e = .returned (.int .i64 0)∧Fr N0 w' w2))
  (HS:Hid (∀ w',Fr N0 w w'→Calls Tryz.prog 91 #[.agg s.enc.toArray] w' fun e w2=>e = .returned (.int .i64 0)∧Fr N0 w' w2)) :
  Calls Tryz.prog 39 #[.agg s.enc.toArray,.agg #[.int .u8 2,.string s.pred,.bool back,vv,uv,sv]] w fun e w'=>e = .returned (.int .i64 (fitR true true back (s.ty != 4) s.rev))∧Fr N0 w w':=by
 obtain⟨sp,st,sl,se,sm,so,sr,sc⟩:=s
 simp only [Sch.enc] at *
 obtain⟨n4,hn4⟩:∃ x,(st != 4)=x:=⟨_,rfl⟩
 rw[hn4]
 cases back
 ·clear hn4
  go_enter Tryz.func39,Tryz.ntmps39
  go_wp2_with (first
    |(go_at_call 38;refine(HM.out _ (((Fr.refl _ _).alloc _).alloc _)).mono ?_;rintro e w1 ⟨rfl,hf1⟩;obtain⟨b1,b2⟩:=two_boxes hf1;obtain⟨m1,n1,l1⟩:=box_cells b1;obtain⟨m2,n2,l2⟩:=box_cells b2;have hg1:=(((Fr.refl N0 w).alloc _).alloc _).then0 hf1)
    |(go_at_call 91;refine(HS.out _ hg1).mono ?_;rintro e w2 ⟨rfl,hf2⟩;obtain⟨b3,b4⟩:=two_boxes (hf1.then0 hf2);obtain⟨m3,n3,l3⟩:=box_cells b3;obtain⟨m4,n4,l4⟩:=box_cells b4))
  go_ret
  exact⟨by simp [fitR],by first | exact hg1.then0 hf2 | exact(hg1.then0 hf2).drewN _⟩
 cases n4
 ·cases sr
  all_goals
   go_enter Tryz.func39,Tryz.ntmps39
   go_wp2_with (first
     |(go_at_call 38;refine(HM.out _ (((Fr.refl _ _).alloc _).alloc _)).mono ?_;rintro e w1 ⟨rfl,hf1⟩;obtain⟨b1,b2⟩:=two_boxes hf1;obtain⟨m1,n1,l1⟩:=box_cells b1;obtain⟨m2,n2,l2⟩:=box_cells b2;have hg1:=(((Fr.refl N0 w).alloc _).alloc _).then0 hf1)
     |(go_at_call 91;refine(HS.out _ hg1).mono ?_;rintro e w2 ⟨rfl,hf2⟩;obtain⟨b3,b4⟩:=two_boxes (hf1.then0 hf2);obtain⟨m3,n3,l3⟩:=box_cells b3;obtain⟨m4,n4,l4⟩:=box_cells b4))
   go_ret
   exact⟨by simp [fitR],by first | exact hg1.then0 hf2 | exact(hg1.then0 hf2).drewN _⟩
 ·skip
  go_enter Tryz.func39,Tryz.ntmps39
  go_wp2_with (first
    |(go_at_call 38;refine(HM.out _ (((Fr.refl _ _).alloc _).alloc _)).mono ?_;rintro e w1 ⟨rfl,hf1⟩;obtain⟨b1,b2⟩:=two_boxes hf1;obtain⟨m1,n1,l1⟩:=box_cells b1;obtain⟨m2,n2,l2⟩:=box_cells b2;have hg1:=(((Fr.refl N0 w).alloc _).alloc _).then0 hf1)
    |(go_at_call 91;refine(HS.out _ hg1).mono ?_;rintro e w2 ⟨rfl,hf2⟩;obtain⟨b3,b4⟩:=two_boxes (hf1.then0 hf2);obtain⟨m3,n3,l3⟩:=box_cells b3;obtain⟨m4,n4,l4⟩:=box_cells b4))
  go_ret
  exact⟨by simp [fitR],by first | exact hg1.then0 hf2 | exact(hg1.then0 hf2).drewN _⟩
theorem ifits_11(w:World)(s:Sch)(back:Bool)(uv sv:Value)(vv:Value)
  (HM:Hid (∀ w',Fr N0 w w'→Calls Tryz.prog 38 #[.agg #[.int .u8 11,.string s.pred,.bool back,vv,uv,sv]] w' fun e w2=>e = .returned (.int .i64 0)∧Fr N0 w' w2))
  (HS:Hid (∀ w',Fr N0 w w'→Calls Tryz.prog 91 #[.agg s.enc.toArray] w' fun e w2=>e = .returned (.int .i64 0)∧Fr N0 w' w2)) :
  Calls Tryz.prog 39 #[.agg s.enc.toArray,.agg #[.int .u8 11,.string s.pred,.bool back,vv,uv,sv]] w fun e w'=>e = .returned (.int .i64 (fitR true s.count back (s.ty != 4) s.rev))∧Fr N0 w w':=by
 obtain⟨sp,st,sl,se,sm,so,sr,sc⟩:=s
 simp only [Sch.enc] at *
 obtain⟨n4,hn4⟩:∃ x,(st != 4)=x:=⟨_,rfl⟩
 rw[hn4]
 cases sc
 ·clear hn4
  go_enter Tryz.func39,Tryz.ntmps39
  go_wp2_with (first
    |(go_at_call 38;refine(HM.out _ (((Fr.refl _ _).alloc _).alloc _)).mono ?_;rintro e w1 ⟨rfl,hf1⟩;obtain⟨b1,b2⟩:=two_boxes hf1;obtain⟨m1,n1,l1⟩:=box_cells b1;obtain⟨m2,n2,l2⟩:=box_cells b2;have hg1:=(((Fr.refl N0 w).alloc _).alloc _).then0 hf1)
    |(go_at_call 91;refine(HS.out _ hg1).mono ?_;rintro e w2 ⟨rfl,hf2⟩;obtain⟨b3,b4⟩:=two_boxes (hf1.then0 hf2);obtain⟨m3,n3,l3⟩:=box_cells b3;obtain⟨m4,n4,l4⟩:=box_cells b4))
  go_ret
  exact⟨by simp [fitR],by first | exact hg1.then0 hf2 | exact(hg1.then0 hf2).drewN _⟩
 cases back
 ·clear hn4
  go_enter Tryz.func39,Tryz.ntmps39
  go_wp2_with (first
    |(go_at_call 38;refine(HM.out _ (((Fr.refl _ _).alloc _).alloc _)).mono ?_;rintro e w1 ⟨rfl,hf1⟩;obtain⟨b1,b2⟩:=two_boxes hf1;obtain⟨m1,n1,l1⟩:=box_cells b1;obtain⟨m2,n2,l2⟩:=box_cells b2;have hg1:=(((Fr.refl N0 w).alloc _).alloc _).then0 hf1)
    |(go_at_call 91;refine(HS.out _ hg1).mono ?_;rintro e w2 ⟨rfl,hf2⟩;obtain⟨b3,b4⟩:=two_boxes (hf1.then0 hf2);obtain⟨m3,n3,l3⟩:=box_cells b3;obtain⟨m4,n4,l4⟩:=box_cells b4))
  go_ret
  exact⟨by simp [fitR],by first | exact hg1.then0 hf2 | exact(hg1.then0 hf2).drewN _⟩
 cases n4
 ·cases sr
  all_goals
   go_enter Tryz.func39,Tryz.ntmps39
   go_wp2_with (first
     |(go_at_call 38;refine(HM.out _ (((Fr.refl _ _).alloc _).alloc _)).mono ?_;rintro e w1 ⟨rfl,hf1⟩;obtain⟨b1,b2⟩:=two_boxes hf1;obtain⟨m1,n1,l1⟩:=box_cells b1;obtain⟨m2,n2,l2⟩:=box_cells b2;have hg1:=(((Fr.refl N0 w).alloc _).alloc _).then0 hf1)
     |(go_at_call 91;refine(HS.out _ hg1).mono ?_;rintro e w2 ⟨rfl,hf2⟩;obtain⟨b3,b4⟩:=two_boxes (hf1.then0 hf2);obtain⟨m3,n3,l3⟩:=box_cells b3;obtain⟨m4,n4,l4⟩:=box_cells b4))
   go_ret
   exact⟨by simp [fitR],by first | exact hg1.then0 hf2 | exact(hg1.then0 hf2).drewN _⟩
 ·skip
  go_enter Tryz.func39,Tryz.ntmps39
  go_wp2_with (first
    |(go_at_call 38;refine(HM.out _ (((Fr.refl _ _).alloc _).alloc _)).mono ?_;rintro e w1 ⟨rfl,hf1⟩;obtain⟨b1,b2⟩:=two_boxes hf1;obtain⟨m1,n1,l1⟩:=box_cells b1;obtain⟨m2,n2,l2⟩:=box_cells b2;have hg1:=(((Fr.refl N0 w).alloc _).alloc _).then0 hf1)
    |(go_at_call 91;refine(HS.out _ hg1).mono ?_;rintro e w2 ⟨rfl,hf2⟩;obtain⟨b3,b4⟩:=two_boxes (hf1.then0 hf2);obtain⟨m3,n3,l3⟩:=box_cells b3;obtain⟨m4,n4,l4⟩:=box_cells b4))
  go_ret
  exact⟨by simp [fitR],by first | exact hg1.then0 hf2 | exact(hg1.then0 hf2).drewN _⟩
theorem ifits_4(w:World)(s:Sch)(back:Bool)(uv sv:Value)(vv:Value)
  (HM:Hid (∀ w',Fr N0 w w'→Calls Tryz.prog 38 #[.agg #[.int .u8 4,.string s.pred,.bool back,vv,uv,sv]] w' fun e w2=>e = .returned (.int .i64 0)∧Fr N0 w' w2))
  (HS:Hid (∀ w',Fr N0 w w'→Calls Tryz.prog 91 #[.agg s.enc.toArray] w' fun e w2=>e = .returned (.int .i64 0)∧Fr N0 w' w2)) :
  Calls Tryz.prog 39 #[.agg s.enc.toArray,.agg #[.int .u8 4,.string s.pred,.bool back,vv,uv,sv]] w fun e w'=>e = .returned (.int .i64 (fitR (s.ty == 3) s.term back (s.ty != 4) s.rev))∧Fr N0 w w':=by
 obtain⟨sp,st,sl,se,sm,so,sr,sc⟩:=s
 simp only [Sch.enc] at *
 obtain⟨n4,hn4⟩:∃ x,(st != 4)=x:=⟨_,rfl⟩
 rw[hn4]
 obtain⟨q,hq⟩:∃ x,(st == 3)=x:=⟨_,rfl⟩
 rw[hq]
 cases q
 ·clear hn4
  go_enter Tryz.func39,Tryz.ntmps39
  go_wp2_with (first
    |(go_at_call 38;refine(HM.out _ (((Fr.refl _ _).alloc _).alloc _)).mono ?_;rintro e w1 ⟨rfl,hf1⟩;obtain⟨b1,b2⟩:=two_boxes hf1;obtain⟨m1,n1,l1⟩:=box_cells b1;obtain⟨m2,n2,l2⟩:=box_cells b2;have hg1:=(((Fr.refl N0 w).alloc _).alloc _).then0 hf1)
    |(go_at_call 91;refine(HS.out _ hg1).mono ?_;rintro e w2 ⟨rfl,hf2⟩;obtain⟨b3,b4⟩:=two_boxes (hf1.then0 hf2);obtain⟨m3,n3,l3⟩:=box_cells b3;obtain⟨m4,n4,l4⟩:=box_cells b4))
  go_quiet (fail)
  go_wp2
  go_ret
  exact⟨by simp [fitR],by first | exact hg1.then0 hf2 | exact(hg1.then0 hf2).drewN _⟩
 cases sm
 ·clear hn4
  go_enter Tryz.func39,Tryz.ntmps39
  go_wp2_with (first
    |(go_at_call 38;refine(HM.out _ (((Fr.refl _ _).alloc _).alloc _)).mono ?_;rintro e w1 ⟨rfl,hf1⟩;obtain⟨b1,b2⟩:=two_boxes hf1;obtain⟨m1,n1,l1⟩:=box_cells b1;obtain⟨m2,n2,l2⟩:=box_cells b2;have hg1:=(((Fr.refl N0 w).alloc _).alloc _).then0 hf1)
    |(go_at_call 91;refine(HS.out _ hg1).mono ?_;rintro e w2 ⟨rfl,hf2⟩;obtain⟨b3,b4⟩:=two_boxes (hf1.then0 hf2);obtain⟨m3,n3,l3⟩:=box_cells b3;obtain⟨m4,n4,l4⟩:=box_cells b4))
  go_quiet (fail)
  go_wp2
  go_ret
  exact⟨by simp [fitR],by first | exact hg1.then0 hf2 | exact(hg1.then0 hf2).drewN _⟩
 cases back
 ·clear hn4
  go_enter Tryz.func39,Tryz.ntmps39
  go_wp2_with (first
    |(go_at_call 38;refine(HM.out _ (((Fr.refl _ _).alloc _).alloc _)).mono ?_;rintro e w1 ⟨rfl,hf1⟩;obtain⟨b1,b2⟩:=two_boxes hf1;obtain⟨m1,n1,l1⟩:=box_cells b1;obtain⟨m2,n2,l2⟩:=box_cells b2;have hg1:=(((Fr.refl N0 w).alloc _).alloc _).then0 hf1)
    |(go_at_call 91;refine(HS.out _ hg1).mono ?_;rintro e w2 ⟨rfl,hf2⟩;obtain⟨b3,b4⟩:=two_boxes (hf1.then0 hf2);obtain⟨m3,n3,l3⟩:=box_cells b3;obtain⟨m4,n4,l4⟩:=box_cells b4))
  go_quiet (fail)
  go_wp2
  go_ret
  exact⟨by simp [fitR],by first | exact hg1.then0 hf2 | exact(hg1.then0 hf2).drewN _⟩
 cases n4
 ·cases sr
  all_goals
   go_enter Tryz.func39,Tryz.ntmps39
   go_wp2_with (first
     |(go_at_call 38;refine(HM.out _ (((Fr.refl _ _).alloc _).alloc _)).mono ?_;rintro e w1 ⟨rfl,hf1⟩;obtain⟨b1,b2⟩:=two_boxes hf1;obtain⟨m1,n1,l1⟩:=box_cells b1;obtain⟨m2,n2,l2⟩:=box_cells b2;have hg1:=(((Fr.refl N0 w).alloc _).alloc _).then0 hf1)
     |(go_at_call 91;refine(HS.out _ hg1).mono ?_;rintro e w2 ⟨rfl,hf2⟩;obtain⟨b3,b4⟩:=two_boxes (hf1.then0 hf2);obtain⟨m3,n3,l3⟩:=box_cells b3;obtain⟨m4,n4,l4⟩:=box_cells b4))
   go_quiet (fail)
   go_wp2
   go_ret
   exact⟨by simp [fitR],by first | exact hg1.then0 hf2 | exact(hg1.then0 hf2).drewN _⟩
 ·skip
  go_enter Tryz.func39,Tryz.ntmps39
  go_wp2_with (first
    |(go_at_call 38;refine(HM.out _ (((Fr.refl _ _).alloc _).alloc _)).mono ?_;rintro e w1 ⟨rfl,hf1⟩;obtain⟨b1,b2⟩:=two_boxes hf1;obtain⟨m1,n1,l1⟩:=box_cells b1;obtain⟨m2,n2,l2⟩:=box_cells b2;have hg1:=(((Fr.refl N0 w).alloc _).alloc _).then0 hf1)
    |(go_at_call 91;refine(HS.out _ hg1).mono ?_;rintro e w2 ⟨rfl,hf2⟩;obtain⟨b3,b4⟩:=two_boxes (hf1.then0 hf2);obtain⟨m3,n3,l3⟩:=box_cells b3;obtain⟨m4,n4,l4⟩:=box_cells b4))
  go_quiet (fail)
  go_wp2
  go_ret
  exact⟨by simp [fitR],by first | exact hg1.then0 hf2 | exact(hg1.then0 hf2).drewN _⟩
theorem ifits_5(w:World)(s:Sch)(back:Bool)(uv sv:Value)(vv:Value)
  (HM:Hid (∀ w',Fr N0 w w'→Calls Tryz.prog 38 #[.agg #[.int .u8 5,.string s.pred,.bool back,vv,uv,sv]] w' fun e w2=>e = .returned (.int .i64 0)∧Fr N0 w' w2))
  (HS:Hid (∀ w',Fr N0 w w'→Calls Tryz.prog 91 #[.agg s.enc.toArray] w' fun e w2=>e = .returned (.int .i64 0)∧Fr N0 w' w2)) :
  Calls Tryz.prog 39 #[.agg s.enc.toArray,.agg #[.int .u8 5,.string s.pred,.bool back,vv,uv,sv]] w fun e w'=>e = .returned (.int .i64 (fitR (s.ty == 3) s.term back (s.ty != 4) s.rev))∧Fr N0 w w':=by
 obtain⟨sp,st,sl,se,sm,so,sr,sc⟩:=s
 simp only [Sch.enc] at *
 obtain⟨n4,hn4⟩:∃ x,(st != 4)=x:=⟨_,rfl⟩
 rw[hn4]
 obtain⟨q,hq⟩:∃ x,(st == 3)=x:=⟨_,rfl⟩
 rw[hq]
 cases q
 ·clear hn4
  go_enter Tryz.func39,Tryz.ntmps39
  go_wp2_with (first
    |(go_at_call 38;refine(HM.out _ (((Fr.refl _ _).alloc _).alloc _)).mono ?_;rintro e w1 ⟨rfl,hf1⟩;obtain⟨b1,b2⟩:=two_boxes hf1;obtain⟨m1,n1,l1⟩:=box_cells b1;obtain⟨m2,n2,l2⟩:=box_cells b2;have hg1:=(((Fr.refl N0 w).alloc _).alloc _).then0 hf1)
    |(go_at_call 91;refine(HS.out _ hg1).mono ?_;rintro e w2 ⟨rfl,hf2⟩;obtain⟨b3,b4⟩:=two_boxes (hf1.then0 hf2);obtain⟨m3,n3,l3⟩:=box_cells b3;obtain⟨m4,n4,l4⟩:=box_cells b4))
  go_quiet (fail)
  go_wp2
  go_ret
  exact⟨by simp [fitR],by first | exact hg1.then0 hf2 | exact(hg1.then0 hf2).drewN _⟩
 cases sm
 ·clear hn4
  go_enter Tryz.func39,Tryz.ntmps39
  go_wp2_with (first
    |(go_at_call 38;refine(HM.out _ (((Fr.refl _ _).alloc _).alloc _)).mono ?_;rintro e w1 ⟨rfl,hf1⟩;obtain⟨b1,b2⟩:=two_boxes hf1;obtain⟨m1,n1,l1⟩:=box_cells b1;obtain⟨m2,n2,l2⟩:=box_cells b2;have hg1:=(((Fr.refl N0 w).alloc _).alloc _).then0 hf1)
    |(go_at_call 91;refine(HS.out _ hg1).mono ?_;rintro e w2 ⟨rfl,hf2⟩;obtain⟨b3,b4⟩:=two_boxes (hf1.then0 hf2);obtain⟨m3,n3,l3⟩:=box_cells b3;obtain⟨m4,n4,l4⟩:=box_cells b4))
  go_quiet (fail)
  go_wp2
  go_ret
  exact⟨by simp [fitR],by first | exact hg1.then0 hf2 | exact(hg1.then0 hf2).drewN _⟩
 cases back
 ·clear hn4
  go_enter Tryz.func39,Tryz.ntmps39
  go_wp2_with (first
    |(go_at_call 38;refine(HM.out _ (((Fr.refl _ _).alloc _).alloc _)).mono ?_;rintro e w1 ⟨rfl,hf1⟩;obtain⟨b1,b2⟩:=two_boxes hf1;obtain⟨m1,n1,l1⟩:=box_cells b1;obtain⟨m2,n2,l2⟩:=box_cells b2;have hg1:=(((Fr.refl N0 w).alloc _).alloc _).then0 hf1)
    |(go_at_call 91;refine(HS.out _ hg1).mono ?_;rintro e w2 ⟨rfl,hf2⟩;obtain⟨b3,b4⟩:=two_boxes (hf1.then0 hf2);obtain⟨m3,n3,l3⟩:=box_cells b3;obtain⟨m4,n4,l4⟩:=box_cells b4))
  go_quiet (fail)
  go_wp2
  go_ret
  exact⟨by simp [fitR],by first | exact hg1.then0 hf2 | exact(hg1.then0 hf2).drewN _⟩
 cases n4
 ·cases sr
  all_goals
   go_enter Tryz.func39,Tryz.ntmps39
   go_wp2_with (first
     |(go_at_call 38;refine(HM.out _ (((Fr.refl _ _).alloc _).alloc _)).mono ?_;rintro e w1 ⟨rfl,hf1⟩;obtain⟨b1,b2⟩:=two_boxes hf1;obtain⟨m1,n1,l1⟩:=box_cells b1;obtain⟨m2,n2,l2⟩:=box_cells b2;have hg1:=(((Fr.refl N0 w).alloc _).alloc _).then0 hf1)
     |(go_at_call 91;refine(HS.out _ hg1).mono ?_;rintro e w2 ⟨rfl,hf2⟩;obtain⟨b3,b4⟩:=two_boxes (hf1.then0 hf2);obtain⟨m3,n3,l3⟩:=box_cells b3;obtain⟨m4,n4,l4⟩:=box_cells b4))
   go_quiet (fail)
   go_wp2
   go_ret
   exact⟨by simp [fitR],by first | exact hg1.then0 hf2 | exact(hg1.then0 hf2).drewN _⟩
 ·skip
  go_enter Tryz.func39,Tryz.ntmps39
  go_wp2_with (first
    |(go_at_call 38;refine(HM.out _ (((Fr.refl _ _).alloc _).alloc _)).mono ?_;rintro e w1 ⟨rfl,hf1⟩;obtain⟨b1,b2⟩:=two_boxes hf1;obtain⟨m1,n1,l1⟩:=box_cells b1;obtain⟨m2,n2,l2⟩:=box_cells b2;have hg1:=(((Fr.refl N0 w).alloc _).alloc _).then0 hf1)
    |(go_at_call 91;refine(HS.out _ hg1).mono ?_;rintro e w2 ⟨rfl,hf2⟩;obtain⟨b3,b4⟩:=two_boxes (hf1.then0 hf2);obtain⟨m3,n3,l3⟩:=box_cells b3;obtain⟨m4,n4,l4⟩:=box_cells b4))
  go_quiet (fail)
  go_wp2
  go_ret
  exact⟨by simp [fitR],by first | exact hg1.then0 hf2 | exact(hg1.then0 hf2).drewN _⟩
end
end Go.Proofs.YtefepfiijoafbaaGreat
