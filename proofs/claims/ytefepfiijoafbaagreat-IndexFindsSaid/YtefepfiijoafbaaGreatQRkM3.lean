/- RkM RkM2 RkM3 -/
import Derived.Deep.RegionLaw
import Derived.Deep.RegionHeld3
import Derived.Deep.RegionWith
import Derived.Deep.AppendLies
import Derived.BigRegion
import Derived.Test.YtefepfiijoafbaaGreatQOrdP
import Derived.Test.YtefepfiijoafbaaGreatQDelV
import Derived.Test.YtefepfiijoafbaaGreatQValR
import Derived.Test.YtefepfiijoafbaaGreatQPAt
set_option linter.unusedVariables false
set_option linter.unusedSimpArgs false
set_option maxRecDepth 100000
set_option maxHeartbeats 2000000
namespace Go.Proofs.YtefepfiijoafbaaGreat
open Go.RowKit Go.Shelf
attribute [local go_sem] Oper.semAt_some
attribute [local irreducible] wpQuiet
theorem qm_len (hb : Nat) (W : World) : (method 435 158 (.pointer (some ⟨hb, 0, none⟩)) "Len").run Tryz.prog W = .ok (87, .pointer (some ⟨hb, 0, none⟩)) W := by kernel_rfl
theorem qm_less (hb : Nat) (W : World) : (method 435 158 (.pointer (some ⟨hb, 0, none⟩)) "Less").run Tryz.prog W = .ok (294, .pointer (some ⟨hb, 0, none⟩)) W := by kernel_rfl
theorem qm_swap (hb : Nat) (W : World) : (method 435 158 (.pointer (some ⟨hb, 0, none⟩)) "Swap").run Tryz.prog W = .ok (297, .pointer (some ⟨hb, 0, none⟩)) W := by kernel_rfl
theorem qm_push (hb : Nat) (W : World) : (method 435 158 (.pointer (some ⟨hb, 0, none⟩)) "Push").run Tryz.prog W = .ok (296, .pointer (some ⟨hb, 0, none⟩)) W := by kernel_rfl
theorem qm_pop (hb : Nat) (W : World) : (method 435 158 (.pointer (some ⟨hb, 0, none⟩)) "Pop").run Tryz.prog W = .ok (295, .pointer (some ⟨hb, 0, none⟩)) W := by kernel_rfl
theorem rk_len(x:Rk):(Rk.enc x).length=3:=rfl
def RkRow(W:World)(base:Nat)(v:Value)(H:List Rk):Prop:=W.ownsRow base 164 3 v H.length (H.flatMap Rk.enc)
theorem RkRow.fr{w w':World}{base:Nat}{v:Value}{H:List Rk}{T:Nat→Prop}(h:RkRow w base v H)(hf:Fr T w w')(ht:∀ k,v.ownBlock=some k→¬ T k):RkRow w' base v H:=ownsRow_fr h hf ht
theorem RkRow.form{W:World}{base:Nat}{v:Value}{H:List Rk}(h:RkRow W base v H)(h0:0 < H.length):∃ g cap,v = .slice (some ⟨g,0,none⟩) H.length cap∧base≤g:=by
 rcases h.2 with⟨_,e⟩ | ⟨g,cap,cur,e,hb,_⟩
 ·omega
 ·exact⟨g,cap,e,hb⟩
theorem RkRow.vform{W:World}{base:Nat}{v:Value}{H:List Rk}(h:RkRow W base v H):∃ a cap,v = .slice a H.length cap:=by
 rcases h.2 with⟨e,h0⟩ | ⟨g,cap,cur,e,_⟩
 ·exact⟨none,0,by rw[e,h0]⟩
 ·exact⟨_,cap,e⟩
theorem RkRow.cells{W:World}{base g n cap:Nat}{H:List Rk}(h:RkRow W base (.slice (some ⟨g,0,none⟩) n cap) H)(hn:n=H.length)(i:Nat)(hi:i < H.length) :
  W.cell? ⟨g,i * 3,none⟩=some (.int .u64 H[i].uid)∧W.cell? ⟨g,i * 3+1,none⟩=some (.int .i64 H[i].n)∧W.cell? ⟨g,i * 3+2,none⟩=some (.bool H[i].some):=by
 subst hn
 have hl:(H.flatMap Rk.enc).length=H.length * 3:=flat_length rk_len H
 have e:=fun c hc=>flat_get (enc:=Rk.enc) (n:=3) rk_len H i hi c hc
 refine⟨?_,?_,?_⟩
 ·have:=e 0 (by omega);rw[Nat.add_zero] at this;rw[h.cellAt _ (by omega),this];rfl
 ·rw[h.cellAt _ (by omega),e 1 (by omega)];rfl
 ·rw[h.cellAt _ (by omega),e 2 (by omega)];rfl
theorem RkRow.cap{W:World}{base g n cap:Nat}{H:List Rk}(h:RkRow W base (.slice (some ⟨g,0,none⟩) n cap) H):H.length≤cap∧cap≤9223372036854775807:=by
 rcases h.2 with⟨e,_⟩ | ⟨g',cap',cur,e,hb,hg,hnc,hcm,hcs,htk⟩
 ·cases e
 ·simp only [Value.slice.injEq] at e
  obtain⟨_,e2,e3⟩:=e
  unfold maxLen at hcm
  omega
theorem RkRow.shorter{W:World}{base g n cap m:Nat}{H:List Rk}(h:RkRow W base (.slice (some ⟨g,0,none⟩) n cap) H)(hm:m≤H.length):RkRow W base (.slice (some ⟨g,0,none⟩) m cap) (H.take m):=by
 have hl:=h.1
 rcases h.2 with⟨e,_⟩ | ⟨g',cap',cur,e,hb,hg,hnc,hcm,hcs,htk⟩
 ·cases e
 ·simp only [Value.slice.injEq,Option.some.injEq,Addr.mk.injEq,and_true] at e
  obtain⟨rfl,rfl,rfl⟩:=e
  have hlen:(H.take m).length=m:=by simp;omega
  unfold RkRow
  rw[hlen,← flat_take rk_len H m hm]
  refine⟨by rw[List.length_take,flat_length rk_len];omega,.inr ⟨_,_,cur,rfl,hb,hg,by omega,hcm,hcs,?_⟩⟩
  rw[← htk,List.take_take]
  congr 1
  omega
abbrev rset(W:World)(g i:Nat)(q:Rk):World:=((W.setCell ⟨g,i * 3,none⟩ (.int .u64 q.uid)).setCell ⟨g,i * 3+1,none⟩ (.int .i64 q.n)).setCell ⟨g,i * 3+2,none⟩ (.bool q.some)
theorem RkRow.set{W:World}{base g n cap:Nat}{H:List Rk}(h:RkRow W base (.slice (some ⟨g,0,none⟩) n cap) H)(hn:n=H.length)(i:Nat)(hi:i < H.length)(q:Rk) :
  RkRow (rset W g i q) base (.slice (some ⟨g,0,none⟩) n cap) (H.set i q):=by
 subst hn
 have h1:=row_set_cells q.enc (i * 3) h (by rw[rk_len,flat_length rk_len];omega)
 have hl:=rk_len q
 rw[flat_take rk_len H i (by omega),hl,show i * 3+3=(i+1) * 3 by omega,flat_drop rk_len H (i+1) (by omega)] at h1
 have e:(H.set i q).flatMap Rk.enc=(H.take i).flatMap Rk.enc ++ q.enc ++(H.drop (i+1)).flatMap Rk.enc:=by
  rw[List.set_eq_take_append_cons_drop,if_pos hi,List.flatMap_append,List.flatMap_cons,List.append_assoc]
 unfold RkRow
 rw[List.length_set,e]
 exact h1
theorem fr_rset{T:Nat→Prop}{A B:World}(h:Fr T A B)(g i:Nat)(q:Rk)(ht:T g):Fr T A (rset B g i q):=
 ((h.setCell (p:=⟨g,i * 3,none⟩) (.inl ht) _).setCell (p:=⟨g,i * 3+1,none⟩) (.inl ht) _).setCell (p:=⟨g,i * 3+2,none⟩) (.inl ht) _
theorem ownsRow_block{w:World}{base:Nat}{e:TypeId}{k:Nat}{v:Value}{n:Nat}{xs:List Value}(h:w.ownsRow base e k v n xs){g:Nat}(hg:v.ownBlock=some g):∃ cur,w.heap[g]?=some (.cells cur e (0,0)):=by
 rcases h.2 with⟨rfl,_⟩ | ⟨g',cap,cur,rfl,hb,hc,_⟩
 ·cases hg
 ·simp only [Value.ownBlock,Option.some.injEq] at hg
  subst hg
  exact⟨cur,hc⟩
abbrev Q2(hb g i k n cap:Nat)(down:Bool)(x y:Rk)(W:World):Prop:=(W.cell? ⟨hb,0,none⟩=some (.slice (some ⟨g,0,none⟩) n cap)∧W.cell? ⟨hb,1,none⟩=some (.bool down))∧(W.cell? ⟨g,i * 3,none⟩=some (.int .u64 x.uid)∧W.cell? ⟨g,i * 3+1,none⟩=some (.int .i64 x.n)∧W.cell? ⟨g,i * 3+2,none⟩=some (.bool x.some))∧W.cell? ⟨g,k * 3,none⟩=some (.int .u64 y.uid)∧W.cell? ⟨g,k * 3+1,none⟩=some (.int .i64 y.n)∧W.cell? ⟨g,k * 3+2,none⟩=some (.bool y.some)
theorem q2_fr{hb g i k n cap:Nat}{down:Bool}{x y:Rk}{W W':World}(h:Q2 hb g i k n cap down x y W)(hf:Fr N0 W W'):Q2 hb g i k n cap down x y W':=
 ⟨⟨hf.cell id h.1.1,hf.cell id h.1.2⟩,⟨hf.cell id h.2.1.1,hf.cell id h.2.1.2.1,hf.cell id h.2.1.2.2⟩,hf.cell id h.2.2.1,hf.cell id h.2.2.2.1,hf.cell id h.2.2.2.2⟩
def QBox(W:World)(hb:Nat)(v:Value)(down:Bool):Prop:=W.heap[hb]?=some (.cells #[v,.bool down] 161 (0,0))
theorem QBox.fr{w W:World}{hb base:Nat}{v:Value}{H:List Rk}{down:Bool}(hbx:QBox w hb v down)(h:RkRow w base v H)(hf:Fr (fun q=>v.ownBlock=some q) w W):QBox W hb v down:=
 (hf.at (fun e=>by obtain⟨c,hc⟩:=ownsRow_block h e;unfold QBox at hbx;rw[hbx] at hc;simp at hc) (lt_of_block hbx)).trans hbx
theorem QBox.fr0{w W:World}{hb:Nat}{v:Value}{down:Bool}(hbx:QBox w hb v down)(hf:Fr N0 w W):QBox W hb v down:=(hf.at id (lt_of_block hbx)).trans hbx
theorem qlen_any(hb:Nat)(a:Option Addr)(n cap:Nat)(down:Bool)(w:World)(h:QBox w hb (.slice a n cap) down):Calls Tryz.prog 87 #[.pointer (some ⟨hb,0,none⟩)] w fun e w'=>e = .returned (.int .i64 n)∧Fr N0 w w':=by
 obtain⟨m,-,-⟩:=box_cells h
 have m0:=m 0
 simp at m0
 clear m h
 go_enter Tryz.func87,Tryz.ntmps87
 go_wp2
 go_ret
 exact⟨rfl,Fr.refl _ _⟩
theorem qlessTail(w W:World)(hb A B:Nat)(x y:Rk)(down:Bool)(f:Nat→Value)(hf:Fr N0 w W)
  (a0:W.cell? ⟨A,0,none⟩=some (.int .u64 x.uid)) (a1:W.cell? ⟨A,1,none⟩=some (.int .i64 x.n)) (a2:W.cell? ⟨A,2,none⟩=some (.bool x.some))
  (b0:W.cell? ⟨B,0,none⟩=some (.int .u64 y.uid)) (b1:W.cell? ⟨B,1,none⟩=some (.int .i64 y.n)) (b2:W.cell? ⟨B,2,none⟩=some (.bool y.some)) (hd:W.cell? ⟨hb,1,none⟩=some (.bool down))
  (h0:f 0 = .pointer (some ⟨hb,0,none⟩)) (h7:f 7 = .pointer (some ⟨A,0,none⟩)) (h8:f 8 = .pointer (some ⟨B,0,none⟩)) :
  Code.wp Tryz.prog (lvSuf 2 ((Tryz.f294.body).getD .skip)) (bodyPost Tryz.prog Tryz.f294 fun e w'=>e = .returned (.bool (rkLess down x y))∧Fr N0 w w') (frA 56 f) W:=by
 obtain⟨xu,xn,xs⟩:=x
 obtain⟨yu,yn,ys⟩:=y
 simp only at a0 a1 a2 b0 b1 b2
 have HF:=hhd hf
 clear hf
 show Code.wp _ _ _ { tmps:=#[f 0,f 1,f 2,f 3,f 4,f 5,f 6,f 7,f 8,f 9,f 10,f 11,f 12,f 13,f 14,f 15,f 16,f 17,f 18,f 19,f 20,f 21,f 22,f 23,f 24,f 25,f 26,f 27,f 28,f 29,f 30,f 31,f 32,f 33,f 34,f 35,f 36,f 37,f 38,f 39,f 40,f 41,f 42,f 43,f 44,f 45,f 46,f 47,f 48,f 49,f 50,f 51,f 52,f 53,f 54,f 55],defers:=[] } _
 rw[h0,h7,h8]
 clear h0 h7 h8
 conv=>arg 2;whnf
 cases xs <;> cases ys
 ·go_wp2
  go_ret
  exact⟨by simp [rkLess],HF.out⟩
 ·go_wp2
  go_ret
  exact⟨by simp [rkLess],HF.out⟩
 ·go_wp2
  go_ret
  exact⟨by simp [rkLess],HF.out⟩
 ·by_cases hn:xn=yn
  ·subst hn
   have hb1:(xn != xn)=false:=by simp
   go_wp2
   go_ret
   exact⟨by simp [rkLess],HF.out⟩
  ·have hb1:(xn != yn)=true:=by simpa using hn
   have hr:rkLess down ⟨xu,xn,true⟩ ⟨yu,yn,true⟩=(decide (xn < yn) != down):=by simp [rkLess,hb1,hn]
   rw[hr]
   clear hr
   go_wp2
   go_quiet (fail)
   go_wp2
   go_ret
   exact⟨by first | rfl | simp,HF.out.drewN _⟩
theorem qless_any(w:World)(hb base:Nat)(v:Value)(down:Bool)(H:List Rk)(hbx:QBox w hb v down)(h:RkRow w base v H)(i k:Nat)(hi:i < H.length)(hk:k < H.length) :
  Calls Tryz.prog 294 #[.pointer (some ⟨hb,0,none⟩),.int .i64 i,.int .i64 k] w fun e w'=>e = .returned (.bool (rkLess down H[i] H[k]))∧Fr N0 w w':=by
 obtain⟨g,cap,rfl,-⟩:=h.form (by omega)
 obtain⟨c1,c2,c3⟩:=h.cells rfl i hi
 obtain⟨d1,d2,d3⟩:=h.cells rfl k hk
 obtain⟨m,-,-⟩:=box_cells hbx
 have m0:=m 0;have m1:=m 1
 simp at m0 m1
 obtain⟨n,hn⟩:∃ n,H.length=n:=⟨_,rfl⟩
 obtain⟨x,hx⟩:∃ x,H[i]=x:=⟨_,rfl⟩
 obtain⟨y,hy⟩:∃ x,H[k]=x:=⟨_,rfl⟩
 rw[hx] at c1 c2 c3;rw[hy] at d1 d2 d3;rw[hn] at hi hk m0
 rw[hx,hy]
 obtain⟨xu,xn,xs⟩:=x
 obtain⟨yu,yn,ys⟩:=y
 have i1:(0:Int)≤(i:Int):=by omega
 have i2:(i:Int) < (n:Int):=by omega
 have i3:(0:Int)≤(k:Int):=by omega
 have i4:(k:Int) < (n:Int):=by omega
 have H2:Hid (Q2 hb g i k n cap down ⟨xu,xn,xs⟩ ⟨yu,yn,ys⟩ w):=hhd ⟨⟨m0,m1⟩,⟨c1,c2,c3⟩,d1,d2,d3⟩
 clear h hbx hx hy hn hi hk m c1 c2 c3 d1 d2 d3
 go_enter Tryz.func294,Tryz.ntmps294
 go_wp2
 go_region_held3 (Q2 hb g i k n cap down ⟨xu,xn,xs⟩ ⟨yu,yn,ys⟩) (first
  |(with_reducible assumption)
  |(with_reducible exact q2_fr H2.out (Fr.refl _ _).drew)
  | (exact q2_fr H2.out (by repeat (first | exact Fr.refl _ _ | assumption | refine Fr.alloc ?_ _ | refine Fr.drew ?_ | refine Fr.drewN ?_ _ | refine Fr.setCell ?_ (.inr (by simp;try omega)) _)))
  | fail) (fail)
 all_goals
  rename_i Kx hKx hS
  have hd:=hS.1.2
  clear hS H2
  refine hKx _ _ ?_
  refine wp_frA _ rfl ?_
  refine qlessTail w _ hb _ _ ⟨xu,xn,xs⟩ ⟨yu,yn,ys⟩ down _ (by repeat (first | exact Fr.refl _ _ | assumption | refine Fr.alloc ?_ _ | refine Fr.drew ?_ | refine Fr.drewN ?_ _ | refine Fr.setCell ?_ (.inr (by simp;try omega)) _)) ?_ ?_ ?_ ?_ ?_ ?_ hd rfl rfl rfl <;> go_simp
theorem qswap_any(w:World)(hb base:Nat)(v:Value)(down:Bool)(H:List Rk)(hbx:QBox w hb v down)(h:RkRow w base v H)(i k:Nat)(hi:i < H.length)(hk:k < H.length) :
  Calls Tryz.prog 297 #[.pointer (some ⟨hb,0,none⟩),.int .i64 i,.int .i64 k] w fun e w'=>(∃ u,e = .returned u)∧RkRow w' base v (swapR H i k)∧Fr (fun q=>v.ownBlock=some q) w w':=by
 obtain⟨g,cap,rfl,-⟩:=h.form (by omega)
 obtain⟨c1,c2,c3⟩:=h.cells rfl i hi
 obtain⟨d1,d2,d3⟩:=h.cells rfl k hk
 obtain⟨m,-,-⟩:=box_cells hbx
 have m0:=m 0
 simp at m0
 have f1:=h.frozenAt (i * 3)
 have f2:=h.frozenAt (i * 3+1)
 have f3:=h.frozenAt (i * 3+2)
 have f4:=h.frozenAt (k * 3)
 have f5:=h.frozenAt (k * 3+1)
 have f6:=h.frozenAt (k * 3+2)
 have hgb:¬ hb=g:=fun e=>by
  obtain⟨cur,hc⟩:=ownsRow_block h (g:=g) rfl
  unfold QBox at hbx;rw[e,hc] at hbx;simp at hbx
 have hgb':¬ g=hb:=fun e=>hgb e.symm
 obtain⟨n,hn⟩:∃ n,H.length=n:=⟨_,rfl⟩
 obtain⟨x,hx⟩:∃ x,H[i]=x:=⟨_,rfl⟩
 obtain⟨y,hy⟩:∃ x,H[k]=x:=⟨_,rfl⟩
 rw[hx] at c1 c2 c3;rw[hy] at d1 d2 d3;rw[hn] at hi hk m0
 have i1:(0:Int)≤(i:Int):=by omega
 have i2:(i:Int) < (n:Int):=by omega
 have i3:(0:Int)≤(k:Int):=by omega
 have i4:(k:Int) < (n:Int):=by omega
 rw[hn]
 have hsw:swapR H i k=(H.set i y).set k x:=by
  rw[swapR_eq (by omega) (by omega),hx,hy]
 rw[hn] at h
 have hres:=(h.set hn.symm i (by omega) y).set (by simp [hn]) k (by simp;omega) x
 rw[← hsw] at hres
 have hfr:Fr (fun q=>(Value.slice (some ⟨g,0,none⟩) n cap).ownBlock=some q) w _:=fr_rset (fr_rset (Fr.refl (fun q=>(Value.slice (some ⟨g,0,none⟩) n cap).ownBlock=some q) w) g i y rfl) g k x rfl
 have HR:=hhd hres;have HFR:=hhd hfr
 clear hsw hres hfr m
 by_cases hik:i=k
 ·subst hik
  obtain rfl:x=y:=hx.symm.trans hy
  clear h hbx hx hy hn hi hk
  obtain⟨xu,xn,xs⟩:=x
  go_enter Tryz.func297,Tryz.ntmps297
  go_wp2
  go_region
  all_goals go_wp2
  all_goals go_end0
  all_goals exact⟨⟨_,rfl⟩,World.ownsRow.drew HR.out,Fr.drew HFR.out⟩
 ·have n1:¬ i * 3=k * 3:=by omega
  have n2:¬ i * 3=k * 3+1:=by omega
  have n3:¬ i * 3=k * 3+2:=by omega
  have n4:¬ i * 3+1=k * 3:=by omega
  have n5:¬ i * 3+1=k * 3+1:=by omega
  have n6:¬ i * 3+1=k * 3+2:=by omega
  have n7:¬ i * 3+2=k * 3:=by omega
  have n8:¬ i * 3+2=k * 3+1:=by omega
  have n9:¬ i * 3+2=k * 3+2:=by omega
  have p1:¬ k * 3=i * 3:=by omega
  have p2:¬ k * 3+1=i * 3:=by omega
  have p3:¬ k * 3+2=i * 3:=by omega
  have p4:¬ k * 3=i * 3+1:=by omega
  have p5:¬ k * 3+1=i * 3+1:=by omega
  have p6:¬ k * 3+2=i * 3+1:=by omega
  have p7:¬ k * 3=i * 3+2:=by omega
  have p8:¬ k * 3+1=i * 3+2:=by omega
  have p9:¬ k * 3+2=i * 3+2:=by omega
  clear h hbx hx hy hn hi hk
  obtain⟨xu,xn,xs⟩:=x
  obtain⟨yu,yn,ys⟩:=y
  go_enter Tryz.func297,Tryz.ntmps297
  go_wp2
  go_region
  all_goals go_wp2
  all_goals go_end0
  all_goals exact⟨⟨_,rfl⟩,World.ownsRow.drew HR.out,Fr.drew HFR.out⟩
theorem assert_rk(v:Value)(W:World):(Instr.typeAssert (.iface 164 v) 20 164 false).run Tryz.prog W = .ok v W:=by
 kernel_rfl
theorem rk_info:(Tryz.prog.info? 164).map (fun i=>(i.zero,i.size,i.bytes))=some (some (.agg #[.int .u64 0,.int .i64 0,.bool false]),3,24):=by kernel_rfl
theorem qbox_set{w:World}{hb:Nat}{v:Value}{down:Bool}(h:QBox w hb v down)(x:Value):QBox (w.setCell ⟨hb,0,none⟩ x) hb x down:=by
 unfold QBox at h ⊢
 rw[heap_setCell_same w hb 0 _ _ x h]
 simp
theorem qpush_any(w:World)(base hb:Nat)(v:Value)(down:Bool)(H:List Rk)(h:RkRow w base v H)(hbx:QBox w hb v down)(hbase:base≤w.heap.size)(hl:H.length≤10000000000)(p:Rk) :
  Calls Tryz.prog 296 #[.pointer (some ⟨hb,0,none⟩),.iface 164 (.agg #[.int .u64 p.uid,.int .i64 p.n,.bool p.some])] w fun e w'=>(∃ u,e = .returned u)∧∃ v',RkRow w' base v' (H ++ [p])∧QBox w' hb v' down ∧
   (∀ q,v'.ownBlock=some q→v.ownBlock=some q∨w.heap.size≤q)∧Fr (fun q=>q=hb∨v.ownBlock=some q) w w':=by
 obtain⟨m,fz,lb⟩:=box_cells hbx
 have k1:=m 0
 simp at k1
 have f1:=fz 0
 have k1a:(w.alloc (.cells #[.int .u64 p.uid,.int .i64 p.n,.bool p.some] 164)).cell? ⟨hb,0,none⟩=some v:=((Fr.refl N0 w).alloc _).cell id k1
 obtain⟨i0,hi,hz0,hz1,hz2⟩:=info_parts rk_info
 have hne:v.ownBlock≠some hb:=fun e=>by obtain⟨c,hc⟩:=ownsRow_block h e;unfold QBox at hbx;rw[hbx] at hc;simp at hc
 have hkp:∀ o w1,((w.alloc o).drew).grownBy w1 v.ownBlock→QBox w1 hb v down:=fun o w1 hg=>
  (((hg.block hb (by show hb < (w.alloc o).heap.size;have:=lt_of_block hbx;simp;omega) (fun e=>hne e.symm)).trans (Below.heap_alloc _ _ _ (lt_of_block hbx))).trans hbx)
 have HKP:=hhd hkp;have HH:=hhd h
 have hown0:∀ q,v.ownBlock=some q→q≠hb:=fun q hq e=>hne (by rw[hq,e])
 have HO:=hhd hown0
 have hlh:H.length≤10000000000:=hl
 obtain⟨n,hn⟩:∃ n,H.length=n:=⟨_,rfl⟩
 have HN:=hhd hn
 have hrow:w.ownsRow base 164 3 v n (H.flatMap Rk.enc):=by rw[← hn];exact h
 have HROW:=hhd hrow
 rw[hn] at hlh
 clear hkp hne hbx h hown0 m fz hn hrow hl
 have hta:=assert_rk (.agg #[.int .u64 p.uid,.int .i64 p.n,.bool p.some])
 go_enter Tryz.func296,Tryz.ntmps296
 go_wp2
 go_region_law (first
  |(go_loud (refine step_append_lies _ rfl _ _ 159 rfl base 164 i0 (.agg #[.int .u64 0,.int .i64 0,.bool false]) 3 24 Tryz.underlying159 hi hz0 hz1 hz2 rfl (by decide) v n (H.flatMap Rk.enc) rfl (World.ownsRow.drew (World.ownsRow.alloc HROW.out _)) ⟨w.heap.size,0,none⟩ 1 1 [.int .u64 p.uid,.int .i64 p.n,.bool p.some] rfl rfl (World.news_of_block (cs:=#[.int .u64 p.uid,.int .i64 p.n,.bool p.some]) (t:=164) (fr:=(0,0)) (heap_alloc_new w _)) (by simp [Value.oneCell']) (by omega) (by unfold maxLen;omega) (by omega) (by simp [World.drew];omega) (w.heap.size+1) (by simp [World.drew]) ?_);intro g gc w1 hown hgrow hfresh hlt;obtain⟨b1,b2,-⟩:=box_cells (HKP.out _ w1 hgrow);have b10:=b1 0;have b20:=b2 0;simp at b10))
 all_goals go_wp2
 all_goals go_end0
 all_goals
  have hgb:g≠hb:=fun e=>by
   rcases hfresh with h1 | h1
   ·exact HO.out g h1 e
   ·omega
  refine⟨⟨_,rfl⟩,.slice (some ⟨g,0,none⟩) (n+1) gc,?_,qbox_set (HKP.out _ w1 hgrow) _,?_,?_⟩
  ·unfold RkRow
   rw[List.flatMap_append,List.length_append,HN.out]
   exact ownsRow_fr hown ((Fr.refl (fun j=>j=hb) w1).setCell (p:=⟨hb,0,none⟩) (.inl rfl) _) fun q hq e=>by
    simp [Value.ownBlock] at hq;omega
  ·intro q hq
   simp [Value.ownBlock] at hq;subst hq
   rcases hfresh with h1 | h1
   ·exact .inl h1
   ·right;omega
  ·exact((((Fr.refl _ w).alloc _).drew).grown hgrow fun k e=>.inl (.inr e)).setCell (p:=⟨hb,0,none⟩) (.inl (.inl rfl)) _
theorem qpop_any(w:World)(base hb:Nat)(v:Value)(down:Bool)(H:List Rk)(h:RkRow w base v H)(hbx:QBox w hb v down)(h0:0 < H.length)(hl:H.length≤10000000000) :
  Calls Tryz.prog 295 #[.pointer (some ⟨hb,0,none⟩)] w fun e w'=>(∃ r:Rk,H[H.length - 1]?=some r∧e = .returned (.iface 164 (.agg #[.int .u64 r.uid,.int .i64 r.n,.bool r.some])))∧∃ v',RkRow w' base v' (H.take (H.length - 1))∧QBox w' hb v' down ∧
   v'.ownBlock=v.ownBlock∧Fr (fun q=>q=hb) w w':=by
 obtain⟨m0,fz0,lb⟩:=box_cells hbx
 have k1:=m0 0
 have f1:=fz0 0
 obtain⟨g,cap,rfl,-⟩:=h.form h0
 obtain⟨m,hm⟩:∃ m,H.length=m+1:=⟨H.length - 1,by omega⟩
 obtain⟨c1,d1,e1⟩:=h.cells rfl m (by omega)
 have hgb:g≠hb:=fun e=>by
  obtain⟨c,hc⟩:=ownsRow_block h (g:=g) rfl
  unfold QBox at hbx;rw[← e,hc] at hbx;simp at hbx
 have hrow:∀ W,Fr N0 w W→RkRow (W.setCell ⟨hb,0,none⟩ (.slice (some ⟨g,0,none⟩) m cap)) base (.slice (some ⟨g,0,none⟩) m cap) (H.take m):=fun W hW=>by
  refine RkRow.fr (T:=fun q=>q=hb) (((h.shorter (m:=m) (by omega))).fr hW fun _ _=>id) ((Fr.refl (fun q=>q=hb) W).setCell (p:=⟨hb,0,none⟩) (.inl rfl) _) fun k hk e=>?_
  simp [Value.ownBlock] at hk
  omega
 have hbW:∀ W,Fr N0 w W→QBox W hb (.slice (some ⟨g,0,none⟩) H.length cap) down:=fun W hW=>hbx.fr0 hW
 have hcap:(m:Int)≤(cap:Int):=by have:=h.cap;omega
 have hx0:H[m]?=some H[m]:=List.getElem?_eq_getElem (by omega)
 have e2:H.length - 1=m:=by omega
 rw[e2]
 simp only [hm] at hbW
 simp [hm] at k1
 have HRW:=hhd hrow;have HBW:=hhd hbW;have HX0:=hhd hx0
 obtain⟨x,hx⟩:∃ x,H[m]=x:=⟨_,rfl⟩
 rw[hx] at c1 d1 e1 HX0
 have i1:(0:Int)≤(m:Int):=by omega
 have i2:(m:Int) < (m:Int)+1:=by omega
 have i3:IntKind.i64.wrap ((m:Int)+1 - 1)=(m:Int):=by rw[IntWalk.i64_in _ (by omega)];omega
 have i4:IntKind.i64.wrap (m:Int)=(m:Int):=IntWalk.i64_in _ (by omega)
 have mk:∀ W,Fr N0 w W→W.cell? ⟨hb,0,none⟩=some (.slice (some ⟨g,0,none⟩) (m+1) cap)∧W.cell? ⟨g,m * 3,none⟩=some (.int .u64 x.uid)∧W.cell? ⟨g,m * 3+1,none⟩=some (.int .i64 x.n)∧W.cell? ⟨g,m * 3+2,none⟩=some (.bool x.some)∧W.frozen? ⟨hb,0,none⟩=false∧Fr N0 w W:=
  fun W hW=>⟨hW.cell id k1,hW.cell id c1,hW.cell id d1,hW.cell id e1,(frozen_same (hW.at id (lt_of_cell k1))).trans f1,hW⟩
 clear h hbx hrow hbW hx hl h0 hm hx0 e2 m0 fz0
 obtain⟨xu,xn,xs⟩:=x
 simp only at c1 d1 e1 mk
 go_enter Tryz.func295,Tryz.ntmps295
 go_wp2
 go_region_held3 (fun W=>W.cell? ⟨hb,0,none⟩=some (.slice (some ⟨g,0,none⟩) (m+1) cap)∧W.cell? ⟨g,m * 3,none⟩=some (.int .u64 xu)∧W.cell? ⟨g,m * 3+1,none⟩=some (.int .i64 xn)∧W.cell? ⟨g,m * 3+2,none⟩=some (.bool xs)∧W.frozen? ⟨hb,0,none⟩=false∧Fr N0 w W)
  (first | exact mk _ (Fr.refl _ _).drew | exact mk _ (Fr.drew (Fr.alloc (Fr.refl _ _) _)) | (go_split_ands;exact mk _ (Fr.alloc (by assumption) _))) (fail)
 have hf1:Fr N0 w (w.alloc (.cells #[.int .u64 xu,.int .i64 xn,.bool xs] 164)).drew:=((Fr.refl _ _).alloc _).drew
 have hx0:(w.alloc (.cells #[.int .u64 xu,.int .i64 xn,.bool xs] 164)).drew.heap[w.heap.size]?=some (.cells #[.int .u64 xu,.int .i64 xn,.bool xs] 164 (0,0)):=World.alloc_heap_new w _
 go_split_ands
 generalize (w.alloc (Obj.cells #[Value.int IntKind.u64 xu,Value.int IntKind.i64 xn,Value.bool xs] 164)).drew=W1 at *
 have k2:=hf1.cell id k1
 have f2:=(frozen_same (hf1.at id (lt_of_cell k1))).trans f1
 have x0:W1.cell? ⟨w.heap.size,0,none⟩=some (.int .u64 xu):=by simp [World.cell?,hx0]
 have x1:W1.cell? ⟨w.heap.size,1,none⟩=some (.int .i64 xn):=by simp [World.cell?,hx0]
 have x2:W1.cell? ⟨w.heap.size,2,none⟩=some (.bool xs):=by simp [World.cell?,hx0]
 have hbs:=lt_of_cell k1
 have n1:¬ hb=w.heap.size:=by simp only at hbs;omega
 have n2:¬ w.heap.size=hb:=by simp only at hbs;omega
 clear mk hx0 c1 d1 e1
 go_wp2
 go_region_with (fail)
 all_goals go_wp2
 all_goals go_ret
 all_goals exact⟨⟨⟨xu,xn,xs⟩,HX0.out,rfl⟩,_,RkRow.fr (HRW.out W1 hf1) (Fr.refl N0 _).drew (fun _ _=>id),(qbox_set (HBW.out W1 hf1) _).fr0 (Fr.refl N0 _).drew,rfl,((Fr.mono (T':=fun q=>q=hb) hf1 fun _ h=>h.elim).setCell (p:=⟨hb,0,none⟩) (.inl rfl) _).drew⟩
end Go.Proofs.YtefepfiijoafbaaGreat
