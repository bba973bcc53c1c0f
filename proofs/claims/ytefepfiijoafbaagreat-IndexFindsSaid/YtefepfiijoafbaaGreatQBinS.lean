/- ConcU IxT IxU BinS -/
import Derived.Lib.AppendZerosOnto
import Derived.Deep.RegionHeld3
import Derived.Test.YtefepfiijoafbaaGreatQVBoth
import Derived.Test.YtefepfiijoafbaaGreatQDelW
import Derived.Test.YtefepfiijoafbaaGreatQXAdd
import Derived.Test.YtefepfiijoafbaaGreatQWhere
import Derived.Test.YtefepfiijoafbaaGreatQOrdP
import Derived.Test.YtefepfiijoafbaaGreatQIOrder
import Derived.Test.YtefepfiijoafbaaGreatQLxO
import Derived.Test.YtefepfiijoafbaaGreatQRising
import Derived.Test.YtefepfiijoafbaaGreatQRFind
import Derived.Test.YtefepfiijoafbaaGreatQFndB
import Derived.Test.YtefepfiijoafbaaGreatQRCnt
import Derived.Test.YtefepfiijoafbaaGreatQVOrd3
set_option linter.unusedVariables false
set_option linter.unusedSimpArgs false
set_option maxRecDepth 100000
set_option maxHeartbeats 8000000
namespace Go.Proofs.YtefepfiijoafbaaGreat
section
open Go.RowKit Go.Shelf Go.Maps Go.Sort
attribute [local go_sem] Oper.semAt_some
attribute [local irreducible] wpQuiet
theorem enc4_one:∀ x:Int,∀ u ∈ enc4 x,u.oneCell'=true:=fun x u hu=>by simp [enc4] at hu;subst hu;rfl
theorem growU_any(w:World)(n:Nat)(hn:n≤8000000000) :
  Calls Tryz.prog 253 #[.slice none 0 0,.int .i64 n] w fun e w'=>∃ v,e = .returned v∧w'.ownsRow w.heap.size 33 1 v 0 []∧Fr N0 w w':=by
 have h1:¬((n:Int) < 0):=by omega
 have h2:wrap64 (((0:Nat):Int) - ((0:Nat):Int))=0:=by unfold wrap64;omega
 have h3:wrap64 ((n:Int) - 0)=(n:Int):=by unfold wrap64;omega
 rcases Nat.eq_zero_or_pos n with h0 | h0
 ·subst h0
  go_enter Tryz.func253,Tryz.ntmps253
  go_wp2
  go_ret
  exact⟨_,rfl,World.ownsRow_nil _ _ _ _,Fr.refl _ _⟩
 ·have h4:(0:Int) < (n:Int):=by omega
  obtain⟨i0,hi,hz0,hz1,hz2⟩:=info_parts ins4_info
  have hold:(Builtin.firstCells i0.size 0 (.slice none 0 0)).run Tryz.prog w.drew = .ok (#[]:Array Value) w.drew:=run_firstCells_none w.drew i0.size 0 0 0
  have hrz:∀ ty,(Builtin.append_ #[35,3] ty #[.slice none 0 0,.int .i64 (n:Int)]).run Tryz.prog w = .ok (.slice (some ⟨w.heap.size,0,none⟩) n (grownCap w n 0 33)) (w.drew.alloc (.cells (#[] ++ Builtin.zeroCells (Value.cells (.int .u64 0)) n ++ Builtin.zeroCells (Value.cells (.int .u64 0)) (grownCap w n 0 33 - n)) 33)):=fun ty=>by
   have h:=Lib.run_append_grow_zeros w 35 3 ty 33 i0 (.int .u64 0) .i64 .i64 Tryz.underlying35 Tryz.underlying3 hi hz0 none 0 0 [] hold n h0 (by omega) (by omega) (by omega) (by rw[hz2];omega) (by
    rw[Nat.zero_add]
    exact growslice_fits h0 (by rw[hz2];omega))
   simp only [Nat.zero_add] at h
   exact h
  have hGn:n≤grownCap w n 0 33:=grownCap_ge w _ _ _
  have hGm:=grownCap_le_maxLen w n 0 33 (by unfold maxLen;omega)
  obtain⟨G,hG⟩:∃ G,G=grownCap w n 0 33:=⟨_,rfl⟩
  rw[← hG] at hrz hGn hGm
  have hG63:G≤9223372036854775807:=by unfold maxLen at hGm;omega
  clear hold hG
  go_enter Tryz.func253,Tryz.ntmps253
  go_wp2_with (at_builtin;refine Lib.wpList_append_run _ rfl _ _ _ _ rfl _ _ rfl rfl _ _ (hrz _) ?_)
  go_ret
  refine⟨_,rfl,⟨by simp,.inr ⟨w.heap.size,G,_,rfl,Nat.le_refl _,World.alloc_heap_new _ _,Nat.zero_le _,hGm,?_,by simp⟩⟩,(Fr.refl _ _).drew.alloc _⟩
  simp [Builtin.zeroCells,Value.cells]
  omega
theorem concatU_any(w:World)(B b1 b2:Nat)(v1 v2:Value)(xs ys:List Int)(h1:RowsK enc4 1 w b1 v1 xs)(h2:RowsK enc4 1 w b2 v2 ys)(hx:xs.length≤4000000000)(hy:ys.length≤4000000000)(c0:w.cell? ⟨B,0,none⟩=some v1)(c1:w.cell? ⟨B,1,none⟩=some v2) :
  Calls Tryz.prog 219 #[.slice (some ⟨B,0,none⟩) 2 2] w fun e w'=>∃ v,e = .returned v∧w'.ownsRow w.heap.size 33 1 v (xs ++ ys).length ((xs ++ ys).map (Value.int .u64))∧Fr N0 w w':=by
 obtain⟨i0,hi,hz0,hz1,hz2⟩:=info_parts ins4_info
 obtain⟨a1,o1,k1,rfl,-⟩:=id h1
 obtain⟨a2,o2,k2,rfl,-⟩:=id h2
 have H1:=hhd h1;have H2:=hhd h2
 have hG:=fun W=>growU_any W (xs.length+ys.length) (by omega)
 have hsum:IntKind.i64.wrap ((xs.length:Int)+(ys.length:Int))=((xs.length+ys.length:Nat):Int):=by rw[IntKind.wrap_i64];omega
 have HG:=hhd hG
 clear h1 h2 hG
 go_enter Tryz.func219,Tryz.ntmps219
 go_wp2
 have s1:IntKind.i64.wrap ((0:Int)+(xs.length:Int))=(xs.length:Int):=by rw[IntKind.wrap_i64];omega
 go_loopw [3,11] (fun sv iv wr=>((iv = .int .i64 0∧sv = .int .i64 0)∨(iv = .int .i64 1∧sv = .int .i64 xs.length)∨(iv = .int .i64 2∧sv = .int .i64 (xs.length+ys.length:Nat)))∧Fr N0 w wr) (fun _ iv _=>2 - (intOf iv).toNat)
 case atStart=>exact⟨.inl ⟨rfl,rfl⟩,Fr.refl _ _⟩
 case round=>
  obtain⟨hcs,hfr⟩:=hrel
  have d0:=hfr.cell id c0;have d1:=hfr.cell id c1
  have hn1:¬(xs.length:Int) < 0:=by omega
  have hn2:¬((xs.length+ys.length:Nat):Int) < 0:=by omega
  rcases hcs with⟨rfl,rfl⟩ | ⟨rfl,rfl⟩ | ⟨rfl,rfl⟩
  ·go_wp2
   go_roundw
   case rel=>exact⟨.inr (.inl ⟨rfl,by go_num⟩),hfr⟩
   case measure=>simp [intOf]
  ·go_wp2
   go_roundw
   case rel=>exact⟨.inr (.inr ⟨rfl,by go_num⟩),hfr⟩
   case measure=>simp [intOf]
  ·have HF:=hhd hfr
   clear hfr
   go_wp2_with (go_at_call 253;go_loud (refine(HG.out _).mono ?_);rintro e w1 ⟨vg,rfl,hr,hf1⟩)
   obtain⟨wA,rfl⟩:∃ wA,wA=wr:=⟨_,rfl⟩
   have HR:=hhd hr;have HF1:=hhd (HF.out.then0 hf1)
   have hsz:=hf1.size
   have hf1':=hhd hf1
   clear hr hf1
   go_loopw [6,27] (fun ov iv wq=>((iv = .int .i64 0∧wq.ownsRow wA.heap.size 33 1 ov 0 [])∨(iv = .int .i64 1∧wq.ownsRow wA.heap.size 33 1 ov xs.length (xs.flatMap enc4))∨(iv = .int .i64 2∧wq.ownsRow wA.heap.size 33 1 ov (xs.length+ys.length) ((xs ++ ys).flatMap enc4)))∧Fr N0 wA wq) (fun _ iv _=>2 - (intOf iv).toNat)
   case atStart=>exact⟨.inl ⟨rfl,HR.out⟩,hf1'.out⟩
   case round=>
    obtain⟨hcs,hfr⟩:=hrel
    have hzz:=hfr.size
    have hF:=HF.out.then0 hfr
    have e0:=hF.cell id c0;have e1:=hF.cell id c1
    have q1:=RowsK.fr0 (enc:=enc4) (n:=1) (fun _=>rfl) H1.out hF;have q2:=RowsK.fr0 (enc:=enc4) (n:=1) (fun _=>rfl) H2.out hF
    have Q1:=hhd q1;have Q2:=hhd q2;have HQ:=hhd hfr;have HFF:=hhd hF
    clear q1 q2 hfr hF
    rcases hcs with⟨rfl,hr⟩ | ⟨rfl,hr⟩ | ⟨rfl,hr⟩
    ·have HRR:=hhd hr
     have hlt:=fun q e=>(hr.lt q e).1
     have HLT:=hhd hlt
     clear hr hlt
     go_wp2_with (at_builtin;go_loud (refine wpList_append_rows rfl _ _ 35 rfl wA.heap.size 33 i0 (.int .u64 0) 1 8 Tryz.underlying35 hi hz0 hz1 hz2 rfl (by decide) u6 0 [] rfl HRR.out (enc:=enc4) (fun _=>rfl) enc4_one b1 _ xs rfl Q1.out (by unfold maxLen;omega) (by omega) hzz ?_);intro v2 w2 hown hgrow)
     go_roundw
     case rel=>exact⟨.inr (.inl ⟨rfl,by simpa using hown⟩),HQ.out.grown hgrow fun q e=>.inr (HLT.out q e)⟩
     case measure=>simp [intOf]
    ·have HRR:=hhd hr
     have hlt:=fun q e=>(hr.lt q e).1
     have HLT:=hhd hlt
     clear hr hlt
     go_wp2_with (at_builtin;go_loud (refine wpList_append_rows rfl _ _ 35 rfl wA.heap.size 33 i0 (.int .u64 0) 1 8 Tryz.underlying35 hi hz0 hz1 hz2 rfl (by decide) u6 xs.length _ rfl HRR.out (enc:=enc4) (fun _=>rfl) enc4_one b2 _ ys rfl Q2.out (by unfold maxLen;omega) (by omega) hzz ?_);intro v2 w2 hown hgrow)
     go_roundw
     case rel=>exact⟨.inr (.inr ⟨rfl,by rw[List.flatMap_append];exact hown⟩),HQ.out.grown hgrow fun q e=>.inr (HLT.out q e)⟩
     case measure=>simp [intOf]
    ·rw[← List.length_append] at hr
     rw[enc4_map] at hr
     have HB:=hhd (ownsRow_base hr HF.out.size)
     clear hr
     go_wp2
     go_ret
     exact⟨_,rfl,HB.out,HFF.out⟩
theorem union4_any(W:World)(ba bb:Nat)(va vb:Value)(a b:List Int)(ha:Ints .u64 W ba va a)(hb:Ints .u64 W bb vb b)(hla:a.length≤2000000000)(hlb:b.length≤2000000000) :
  Calls Tryz.prog 168 #[va,vb] W fun e w'=>∃ v,e = .returned v∧w'.ownsRow W.heap.size 33 1 v (normU (a ++ b)).length ((normU (a ++ b)).map (Value.int .u64))∧Fr N0 W w':=by
 have hf0:Fr N0 W (W.alloc (.cells #[va,vb] 35)):=(Fr.refl N0 W).alloc _
 have toR:∀ {W':World} {b:Nat} {v:Value} {l:List Int},Ints .u64 W' b v l→RowsK enc4 1 W' b v l:=fun h=>by
  obtain⟨a,off,cap,rfl,h1,h2,h3,h4,h5,-⟩:=h
  exact⟨a,off,cap,rfl,h1,h2,h3,h4,fun i hi c hc=>by
   obtain rfl:c=0:=by omega
   rw[Nat.mul_one,Nat.add_zero,h5 i hi];rfl⟩
 have hb0:=World.alloc_heap_new W (.cells #[va,vb] 35)
 have hcc:=concatU_any (W.alloc (.cells #[va,vb] 35)) W.heap.size ba bb va vb a b (toR (ha.fr0 hf0)) (toR (hb.fr0 hf0)) (by omega) (by omega) ((box_cells hb0).1 0) ((box_cells hb0).1 1)
 obtain⟨xs,hxs⟩:∃ xs,a ++ b=xs:=⟨_,rfl⟩
 have hxl:xs.length≤4000000000:=by rw[← hxs,List.length_append];omega
 rw[hxs] at hcc ⊢
 obtain⟨aa,ao,ac,rfl,-⟩:=ha
 obtain⟨ab,bo,bc,rfl,-⟩:=hb
 have HCC:=hhd hcc;have HF0:=hhd hf0
 clear hcc hf0 hb0 hxs toR
 go_enter Tryz.func168,Tryz.ntmps168
 go_wp2_with fail
 refine HCC.out.mono ?_
 rintro e w1 ⟨v1,rfl,hr1,hf1⟩
 have HF1:=hhd (HF0.out.then0 hf1)
 have hz1:W.heap.size≤(W.alloc (.cells #[.slice aa a.length ac,.slice ab b.length bc] 35)).heap.size:=HF0.out.size
 have hr1':=ownsRow_base hr1 hz1
 have hs:=sort4_any w1 W.heap.size v1 xs hr1' (by omega)
 have HS:=hhd hs;have HR1:=hhd hr1'
 clear hr1 hf1 hs HCC hr1'
 go_wp2_with fail
 refine HS.out.mono ?_
 rintro e w2 ⟨rfl,hr2,hf2⟩
 have hc:=compact_any w2 W.heap.size v1 (xs.mergeSort fun x y=>decide (x≤y)) (row_sorted hr2) (by rw[(List.mergeSort_perm xs _).length_eq];omega)
 have HC:=hhd hc
 have HF2:=hhd (HF1.out.trans hf2 fun q hq=>.inr (ownsRow_lt HR1.out q hq).1)
 clear hr2 hf2 hc HS
 go_wp2_with fail
 refine HC.out.mono ?_
 rintro e w3 ⟨v3,rfl,hr3,hf3⟩
 have HF3:=hhd (HF2.out.trans hf3 fun q hq=>.inr (ownsRow_lt HR1.out q hq).1)
 have HR3:=hhd hr3
 clear hr3 hf3
 go_wp2_with fail
 go_ret
 exact⟨_,rfl,HR3.out,HF3.out⟩
end
section
open Go.RowKit Go.Shelf Go.Maps Go.Sort
attribute [local go_sem] Oper.semAt_some
attribute [local go_sem ↓] Go.wp_at_zero Go.wp_at_succ
attribute [local irreducible] wpQuiet
abbrev TxS(B bt:Nat)(xc:Array Value)(t:ByteArray)(w W:World):Prop:=BoxB B xc W∧BoxB bt #[.string t] W∧Fr N0 w W
theorem txS_keep{B bt:Nat}{xc:Array Value}{t:ByteArray}{w W W':World}(h:TxS B bt xc t w W)(hf:Fr N0 W W'):TxS B bt xc t w W':=⟨boxB_keep hf id h.1,boxB_keep hf id h.2.1,h.2.2.then0 hf⟩
theorem enters_ixTerms1:∀ args w,(callFunc 217 args).run Tryz.prog w = .ok (.enter 217 args) w:=enters_of Tryz.func217 (by kernel_rfl) rfl
theorem enters_both4:∀ args w,(callFunc 220 args).run Tryz.prog w = .ok (.enter 220 args) w:=enters_of Tryz.func220 (by kernel_rfl) rfl
theorem enters_union4:∀ args w,(callFunc 168 args).run Tryz.prog w = .ok (.enter 168 args) w:=enters_of Tryz.func168 (by kernel_rfl) rfl
theorem ixTerms1_any(w:World)(bt:Nat)(t:ByteArray)(x:Val)(hx:x.s.size≤100000)(hb:w.heap[bt]?=some (.cells #[.string t] 9 (0,0))) :
  Calls Tryz.prog 217 #[.agg x.enc.toArray,.pointer (some ⟨bt,0,none⟩)] w fun e w'=>e = .returned (.bool (Lib.containsS (termsOf x.s) t))∧Fr N0 w w':=by
 obtain⟨xk,xb,xn,xs,xu⟩:=x
 simp only [Val.enc] at hx ⊢
 have hte:=fun W=>vTerms_any W xs hx
 have hf0:Fr N0 w (w.alloc (.cells #[.int .u8 xk,.bool xb,.int .i64 xn,.string xs,.int .u64 xu] 57)):=(Fr.refl N0 w).alloc _
 have hb1:=World.alloc_heap_new w (.cells #[.int .u8 xk,.bool xb,.int .i64 xn,.string xs,.int .u64 xu] 57)
 have hb2:=(hf0.at (k:=bt) id (lt_of_block hb)).trans hb
 have hS0:TxS w.heap.size bt #[.int .u8 xk,.bool xb,.int .i64 xn,.string xs,.int .u64 xu] t w (w.alloc (.cells #[.int .u8 xk,.bool xb,.int .i64 xn,.string xs,.int .u64 xu] 57)).drew:=txS_keep (W:=w.alloc (.cells #[.int .u8 xk,.bool xb,.int .i64 xn,.string xs,.int .u64 xu] 57)) ⟨⟨(box_cells hb1).1,lt_of_block hb1⟩,⟨(box_cells hb2).1,lt_of_block hb2⟩,hf0⟩ (Fr.refl _ _).drew
 have HTE:=hhd hte;have HS0:=hhd hS0
 clear hte hf0 hb1 hb2 hS0 hb
 go_enter Tryz.func217,Tryz.ntmps217
 go_wp2_with fail
 generalize hW1:w.alloc _=W1 at HS0
 try rw[hW1]
 clear hW1
 have hS0:=HS0.out
 go_region_held3 (TxS w.heap.size bt #[.int .u8 xk,.bool xb,.int .i64 xn,.string xs,.int .u64 xu] t w) (first
  |(with_reducible assumption)
  | fail) (first
  |(go_simp;go_at_call 216;refine(HTE.out _).mono ?_;rintro e w3 ⟨v3,b3,rfl,hr3,hf3⟩;have hs3:=txS_keep hS0 hf3)
  |(go_simp;go_at_call 218;refine(containsS_any _ b3 v3 _ hr3 t).mono ?_;rintro e w4 ⟨rfl,rfl⟩)
  | fail)
 all_goals
  go_wp2_with fail
  go_ret
  exact⟨rfl,hs3.2.2⟩
theorem rises_len{xs ks:List Int}(hx:RisesBy id xs)(hk:RisesBy id ks)(h:∀ u ∈ xs,u ∈ ks):xs.length≤ks.length:=by
 have e:xs=ks.filter fun u=>decide (u ∈ xs):=rises_unique hx (List.Pairwise.sublist List.filter_sublist hk) fun u=>by
  rw[List.mem_filter]
  exact⟨fun hu=>⟨h u hu,by simpa using hu⟩,fun hu=>by simpa using hu.2⟩
 rw[e];exact List.length_filter_le _ _
structure JoinOk(jf:FuncId)(J:List Int→List Int→List Int):Prop where
 call:∀ W ba bb va vb a b,Ints .u64 W ba va a→Ints .u64 W bb vb b→RisesBy id a→RisesBy id b→a.length≤1000000000→b.length≤1000000000→Calls Tryz.prog jf #[va,vb] W fun e w'=>∃ v,e = .returned v∧w'.ownsRow W.heap.size 33 1 v (J a b).length ((J a b).map (Value.int .u64))∧Fr N0 W w'
 rises:∀ a b,RisesBy id a→RisesBy id b→RisesBy id (J a b)
 sub:∀ a b u,u ∈ J a b→u ∈ a∨u ∈ b
 enters:∀ args w,(callFunc jf args).run Tryz.prog w = .ok (.enter jf args) w
theorem join_both:JoinOk 220 bothL where
 call:=fun W ba bb va vb a b ha hb _ hr hla hlb=>both4_any W ba bb va vb a b ha hb (hr.imp fun h=>Int.le_of_lt h) (by omega) (by omega)
 rises:=fun a b ha _=>List.Pairwise.sublist List.filter_sublist ha
 sub:=fun a b u hu=>.inl (List.mem_filter.1 hu).1
 enters:=enters_both4
theorem join_union:JoinOk 168 (fun a b=>normU (a ++ b)) where
 call:=fun W ba bb va vb a b ha hb _ _ hla hlb=>union4_any W ba bb va vb a b ha hb (by omega) (by omega)
 rises:=fun a b _ _=>normU_rises _
 sub:=fun a b u hu=>List.mem_append.1 ((normU_mem _ u).1 hu)
 enters:=enters_union4
def joinS(J:List Int→List Int→List Int)(N:ByteArray→List Int)(o:Option (List Int))(t:ByteArray):Option (List Int):=match o with
 | none=>some (N t)
 | some a=>some (J a (N t))
def joinT(J:List Int→List Int→List Int)(N:ByteArray→List Int)(l:List ByteArray):List Int:=(l.foldl (joinS J N) none).getD []
theorem joinT_snoc{J:List Int→List Int→List Int}{N:ByteArray→List Int}(l:List ByteArray)(t:ByteArray):joinT J N (l ++ [t])=if l = [] then N t else J (joinT J N l) (N t):=by
 unfold joinT
 rw[List.foldl_append]
 by_cases h:l = []
 ·subst h;simp [joinS]
 ·rw[if_neg h]
  have hs:∃ a,l.foldl (joinS J N) none=some a:=by
   cases l with
   | nil=>exact absurd rfl h
   | cons y l=>
    rw[List.foldl_cons]
    show ∃ a,l.foldl (joinS J N) (some (N y))=some a
    clear h
    generalize N y=a
    induction l generalizing a with
    | nil=>exact⟨a,rfl⟩
    | cons z l ih=>exact ih _
  obtain⟨a,ha⟩:=hs
  rw[ha];rfl
theorem joinT_all{J:List Int→List Int→List Int}{N:ByteArray→List Int}{jf:FuncId}(hJ:JoinOk jf J)(hN:∀ t,RisesBy id (N t))(P:Int→Prop)(hP:∀ t u,u ∈ N t→P u):∀ l,RisesBy id (joinT J N l)∧∀ u ∈ joinT J N l,P u:=by
 refine list_snoc (C:=fun l=>RisesBy id (joinT J N l)∧∀ u ∈ joinT J N l,P u) ⟨List.Pairwise.nil,by simp [joinT]⟩ fun l t ih=>?_
 rw[joinT_snoc]
 split
 ·exact⟨hN t,hP t⟩
 ·exact⟨hJ.rises _ _ ih.1 (hN t),fun u hu=>(hJ.sub _ _ u hu).elim (ih.2 u) (hP t u)⟩
end
section
open Go.RowKit Go.Shelf Go.Maps Go.Sort
attribute [local go_sem] Oper.semAt_some
attribute [local irreducible] wpQuiet
structure TermsAre(H:Int→List Val)(Nt:ByteArray→List Int):Prop where
 rises:∀ t,RisesBy id (Nt t)
 mem:∀ t u,u ∈ Nt t↔(H u).any (fun v=>Lib.containsS (termsOf v.s) t)=true
theorem exists_terms{H:Int→List Val}{ks:List Int}(hks:NodesOf H ks):∃ Nt,TermsAre H Nt:=
 ⟨fun t=>ks.filter fun u=>(H u).any fun v=>Lib.containsS (termsOf v.s) t,fun t=>List.Pairwise.sublist List.filter_sublist hks.rises,fun t u=>by
  rw[List.mem_filter]
  exact⟨fun h=>h.2,fun h=>⟨(hks.mem u).2 fun e=>by rw[e] at h;simp at h,h⟩⟩⟩
theorem ixTerms_any(W:World)(lo px bn bb N:Nat)(H:Int→List Val)(B:Int→List Int)(h:LookAt W lo px bn bb N H B)(hH:HOk H N)(hN:N≤900000000)(hsz:∀ u,∀ x ∈ H u,x.s.size≤100000)(q:ByteArray)(hq:q.size≤100000)(jf:FuncId)(J:List Int→List Int→List Int)(hJ:JoinOk jf J)
  (Nt:ByteArray→List Int) (hNt:TermsAre H Nt) (ks:List Int) (hks:NodesOf H ks) (hkl:ks.length≤N) :
  Calls Tryz.prog 167 #[.pointer (some ⟨px,0,none⟩),.string q,.func (.func jf) #[] #[]] W fun e w'=>∃ v,e = .returned v∧w'.ownsRow W.heap.size 33 1 v (joinT J Nt (termsOf q)).length ((joinT J Nt (termsOf q)).map (Value.int .u64))∧Fr N0 W w':=by
 have hte:=fun W=>vTerms_any W q hq
 have hwh:=fun W' (hf:Fr N0 W W') bt t (hb:W'.heap[bt]?=some (.cells #[.string t] 9 (0,0)))=>
  (where_any W' lo px bn bb N H B (h.fr hf) hH (by omega) 217 #[.pointer (some ⟨bt,0,none⟩)] (fun v=>Lib.containsS (termsOf v.s) t) (fun u x hx W2 hW2=>ixTerms1_any W2 bt t x (hsz u x hx) ((hW2.at id (lt_of_block hb)).trans hb)) enters_ixTerms1).mono fun e w' hh=>hh.are (hNt.rises t) (hNt.mem t)
 have hmemP:∀ t u,u ∈ Nt t→H u≠[]:=fun t u hu e=>by
  have:=(hNt.mem t u).1 hu
  rw[e] at this;simp at this
 have hall:=fun l=>joinT_all hJ hNt.rises (fun u=>H u≠[]) hmemP l
 have hlenJ:∀ l,(joinT J Nt l).length≤N:=fun l=>Nat.le_trans (rises_len (hall l).1 hks.rises fun u hu=>(hks.mem u).2 ((hall l).2 u hu)) hkl
 have hlenN:∀ t,(Nt t).length≤N:=fun t=>Nat.le_trans (rises_len (hNt.rises t) hks.rises fun u hu=>(hks.mem u).2 (hmemP t u hu)) hkl
 have hwfJ:∀ l,∀ u ∈ joinT J Nt l,(Lit.int .u64 u).wf=true:=fun l u hu=>hH.key u ((hall l).2 u hu)
 have hwfN:∀ t,∀ u ∈ Nt t,(Lit.int .u64 u).wf=true:=fun t u hu=>hH.key u (hmemP t u hu)
 have hriJ:∀ l,RisesBy id (joinT J Nt l):=fun l=>(hall l).1
 have heg:=hJ.enters
 obtain⟨l,hl⟩:∃ l,termsOf q=l:=⟨_,rfl⟩
 have hll:l.length≤100001:=by have:=termsOf_len q;rw[hl] at this;omega
 rw[hl]
 simp only [hl] at hte
 obtain⟨n,hn⟩:∃ n,l.length=n:=⟨_,rfl⟩
 obtain⟨Pst,hPst⟩:∃ Pst:Ending→World→Prop,(fun e w'=>∃ v,e = .returned v∧w'.ownsRow W.heap.size 33 1 v (joinT J Nt l).length ((joinT J Nt l).map (Value.int .u64))∧Fr N0 W w')=Pst:=⟨_,rfl⟩
 have hpost:∀ v w',w'.ownsRow W.heap.size 33 1 v (joinT J Nt l).length ((joinT J Nt l).map (Value.int .u64))→Fr N0 W w'→Pst (.returned v) w':=fun v w' h1 h2=>by rw[← hPst];exact⟨v,rfl,h1,h2⟩
 rw[hPst]
 have HTE:=hhd hte;have HWH:=hhd hwh;have HLJ:=hhd hlenJ;have HLN:=hhd hlenN;have HWJ:=hhd hwfJ;have HWN:=hhd hwfN;have HRJ:=hhd hriJ;have HRN:=hhd hNt.rises;have HJ:=hhd hJ;have HN:=hhd hn;have HPOST:=hhd hpost
 rw[hn] at hll
 clear hte hwh hlenJ hlenN hwfJ hwfN hriJ hJ hNt hn hpost hPst hall hmemP h hH hsz hks hl
 go_enter Tryz.func167,Tryz.ntmps167
 go_wp2_with fail
 refine(HTE.out _).mono ?_
 rintro e w1 ⟨v1,b1,rfl,⟨sa,so,sc,rfl,r1,r2,r3,-,r5⟩,hf1⟩
 have HF1:=hhd hf1;have HR5:=hhd r5
 rw[HN.out] at r1 r3 ⊢
 clear hf1 r5 HTE
 go_wp2_with fail
 go_loopw [7,14] (fun ov iv wr=>∃ (i:Nat) (os:List Int),i≤n∧iv = .int .i64 i∧Hid (os=joinT J Nt (l.take i))∧Hid (wr.ownsRow W.heap.size 33 1 ov os.length (os.map (Value.int .u64)))∧Hid (Fr N0 w1 wr)) (fun _ iv _=>n - (intOf iv).toNat)
 case atStart=>exact⟨0,[],Nat.zero_le _,by first | rfl | go_num,hhd (by simp [joinT]),World.ownsRow_nil _ _ _ _,Fr.refl _ _⟩
 case round=>
  obtain⟨i,os,hi',rfl,hos,hrow,hfr⟩:=hrel
  have hwz:=(HF1.out.then0 hfr.out).size
  by_cases hlt:i < n
  ·obtain rfl:=r3 (by omega)
   have hiu:i < l.length:=by rw[HN.out];exact hlt
   have cu:=hfr.out.cell id (HR5.out i hiu)
   have hts:=joinT_snoc (J:=J) (N:=Nt) (l.take i) l[i]
   rw[← List.take_succ_eq_append_getElem hiu] at hts
   obtain⟨t,ht⟩:∃ t,l[i]=t:=⟨_,rfl⟩
   rw[ht] at cu hts
   have hi1:(i:Int) < (n:Int):=by omega
   have hfw:=HF1.out.then0 hfr.out
   have hwc:=HWH.out (wr.alloc (.cells #[.string t] 9)) (hfw.alloc _) wr.heap.size t (World.alloc_heap_new wr _)
   have hfa:Fr N0 wr (wr.alloc (.cells #[.string t] 9)):=(Fr.refl N0 wr).alloc _
   have HWC:=hhd hwc;have HTS:=hhd hts;have HOS:=hhd hos.out;have HROW:=hhd (hrow.out.fr0 hfa);have HFR:=hhd (hfr.out.then0 hfa)
   have hwz2:W.heap.size≤(wr.alloc (.cells #[.string t] 9)).heap.size:=by rw[World.size_alloc];omega
   clear hwc hts hos hrow hfr hfa hfw ht
   by_cases h0:i=0
   ·subst h0
    have hnx:joinT J Nt (l.take (0+1))=Nt t:=by rw[HTS.out,if_pos (by simp)]
    have HNX:=hhd hnx
    rw[Nat.add_zero] at cu
    clear hnx HOS HROW
    go_wp2_with fail
    refine HWC.out.mono ?_
    rintro e w3 ⟨fa,fc,rfl,hr3,hf3⟩
    have HR3:=hhd (ownsRow_base hr3 hwz2);have HF3:=hhd (HFR.out.then0 hf3)
    clear hr3 hf3
    go_wp2_with fail
    go_roundw
    case rel=>exact⟨1,Nt t,by omega,by first | rfl | go_num,hhd HNX.out.symm,HR3,HF3⟩
    case measure=>simp [intOf] <;> omega
   ·have hnx:joinT J Nt (l.take (i+1))=J os (Nt t):=by
     rw[HTS.out,if_neg (fun e=>h0 (by have hh:=congrArg List.length e;rw[List.length_take,Nat.min_eq_left (Nat.le_of_lt hiu)] at hh;exact hh)),HOS.out]
    have HNX:=hhd hnx
    have h0':((i:Int) == 0)=false:=by simp;omega
    clear hnx
    go_wp2_with fail
    refine HWC.out.mono ?_
    rintro e w3 ⟨fa,fc,rfl,hr3,hf3⟩
    obtain⟨nb,-,hIN⟩:=ints_rowH hr3 (HWN.out t)
    obtain⟨ob,-,hIO⟩:=ints_rowH (HROW.out.fr0 hf3) (by rw[HOS.out];exact HWJ.out _)
    have hcj:=HJ.out.call w3 ob nb _ _ os (Nt t) hIO hIN (by rw[HOS.out];exact HRJ.out _) (HRN.out t) (by rw[HOS.out];exact Nat.le_trans (HLJ.out _) (by omega)) (Nat.le_trans (HLN.out t) (by omega))
    have HCJ:=hhd hcj;have HF3:=hhd (HFR.out.then0 hf3)
    have hw3:W.heap.size≤w3.heap.size:=(HF1.out.then0 HF3.out).size
    clear hr3 hf3 hIN hIO hcj
    go_wp2_with fail
    refine HCJ.out.mono ?_
    rintro e w4 ⟨v4,rfl,hr4,hf4⟩
    have HR4:=hhd (ownsRow_base hr4 hw3);have HF4:=hhd (HF3.out.then0 hf4)
    clear hr4 hf4
    go_wp2_with fail
    go_roundw
    case rel=>exact⟨i+1,J os (Nt t),by omega,by first | rfl | go_num,hhd HNX.out.symm,HR4,HF4⟩
    case measure=>simp [intOf] <;> omega
  ·obtain rfl:i=n:=by omega
   have hfull:l.take i=l:=by rw[← HN.out,List.take_length]
   have hos2:=hos.out
   rw[hfull] at hos2
   have HOS:=hhd hos2;have HROW:=hhd hrow.out;have HFR:=hhd hfr.out
   clear hos hos2 hrow hfr hfull
   have hi1:¬(i:Int) < (i:Int):=by omega
   go_wp2_with fail
   have hr:=HROW.out
   rw[HOS.out] at hr
   exact HPOST.out _ _ hr (HF1.out.then0 HFR.out)
theorem sNaNS_any(x:ByteArray)(w:World):Calls Tryz.prog 264 #[.string x] w fun e w'=>e = .returned (.bool false)∧w'=w:=by
 go_enter Tryz.func264,Tryz.ntmps264
 go_wp2
 go_ret
 exact⟨by simp,rfl⟩
theorem naSX_any(x:ByteArray)(w:World):Calls Tryz.prog 259 #[.string x] w fun e w'=>e = .returned (.bool false)∧w'=w:=by
 go_enter Tryz.func259,Tryz.ntmps259
 go_wp2
 go_ret
 exact⟨by simp,rfl⟩
theorem lessS_any(x y:ByteArray)(w:World):Calls Tryz.prog 233 #[.string x,.string y] w fun e w'=>e = .returned (.bool (decide (x.toList < y.toList)))∧w'=w:=by
 go_enter Tryz.func233,Tryz.ntmps233
 go_wp2_with (go_at_call 259;refine(naSX_any _ _).mono ?_;rintro e w' ⟨rfl,rfl⟩)
 go_ret
 exact⟨by simp [bytesLess_eq],rfl⟩
theorem contains_no{xs:List ByteArray}{t:ByteArray}(h:t ∉ xs):Lib.containsS xs t=false:=by
 rw[Bool.eq_false_iff];exact fun e=>h ((Lib.containsS_iff xs t).1 e)
theorem binS_any(w:World)(b:Nat)(v:Value)(xs:List ByteArray)(h:Strs w b v xs)(t:ByteArray)(hs:xs.Pairwise fun a b=>a.toList < b.toList)(hl:xs.length≤17592186044416) :
  Calls Tryz.prog 254 #[v,.string t] w fun e w'=>∃ i:Int,e = .returned (.tuple #[.int .i64 i,.bool (Lib.containsS xs t)])∧Fr N0 w w':=by
 obtain⟨a,off,cap,rfl,h1,h2,h3,-,h5⟩:=h
 have HC:=hhd h5
 have hat:∀ i (hi:i < xs.length),(∀ k (h:k < xs.length),k < i→xs[k].toList < t.toList)→¬ xs[i].toList < t.toList→(xs[i]=t→Lib.containsS xs t=true)∧(xs[i]≠t→Lib.containsS xs t=false):=fun i hi g1 g2=>by
  refine⟨fun e=>(Lib.containsS_iff xs t).2 (e ▸ List.getElem_mem hi),fun hne=>contains_no fun hm=>?_⟩
  obtain⟨j,hj,e⟩:=List.mem_iff_getElem.1 hm
  rcases Nat.lt_trichotomy j i with hji | rfl | hji
  ·have h1:=g1 j hj hji
   rw[e] at h1
   exact List.lt_irrefl _ h1
  ·exact hne e
  ·have h1:=List.pairwise_iff_getElem.1 hs i j hi hj hji
   rw[e] at h1
   exact g2 h1
 have hend:(∀ k (h:k < xs.length),xs[k].toList < t.toList)→Lib.containsS xs t=false:=fun g1=>contains_no fun hm=>by
  obtain⟨j,hj,e⟩:=List.mem_iff_getElem.1 hm
  have h1:=g1 j hj
  rw[e] at h1
  exact List.lt_irrefl _ h1
 have hlow:∀ m (hm:m < xs.length),xs[m].toList < t.toList→∀ k (h:k < xs.length),k < m+1→xs[k].toList < t.toList:=fun m hm hf k hk hki=>by
  by_cases e:k=m
  ·subst e;exact hf
  ·exact List.lt_trans (List.pairwise_iff_getElem.1 hs k m hk hm (by omega)) hf
 have hhigh:∀ m (hm:m < xs.length),¬ xs[m].toList < t.toList→∀ k (h:k < xs.length),m≤k→¬ xs[k].toList < t.toList:=fun m hm hf k hk hki hlt=>by
  by_cases e:k=m
  ·subst e;exact hf hlt
  ·exact hf (List.lt_trans (List.pairwise_iff_getElem.1 hs m k hm hk (by omega)) hlt)
 obtain⟨C,hC⟩:∃ C,Lib.containsS xs t=C:=⟨_,rfl⟩
 rw[hC] at hend ⊢
 simp only [hC] at hat
 have HAT:=hhd hat;have HEND:=hhd hend;have HLOW:=hhd hlow;have HHIGH:=hhd hhigh
 clear h5 hs hat hend hlow hhigh hC
 go_enter Tryz.func254,Tryz.ntmps254
 go_wp2_with fail
 go_loopw [7,8] (fun si sj wr=>∃ (i j:Nat),i≤j∧j≤xs.length∧si = .int .i64 i∧sj = .int .i64 j∧Hid (∀ k (h:k < xs.length),k < i→xs[k].toList < t.toList)∧Hid (∀ k (h:k < xs.length),j≤k→¬ xs[k].toList < t.toList)∧Hid (Fr N0 w wr)) (fun si sj _=>(intOf sj).toNat - (intOf si).toNat)
 case atStart=>exact⟨0,xs.length,Nat.zero_le _,Nat.le_refl _,by first | rfl | go_num,rfl,fun _ _ h=>absurd h (by omega),fun _ h h'=>absurd h (by omega),Fr.refl _ _⟩
 case round=>
  obtain⟨i,j,hij,hjn,rfl,rfl,hlo,hhi,hfr⟩:=hrel
  by_cases hlt:i < j
  ·obtain rfl:=h3 (by omega)
   have hh1:(i+j) / 2 < xs.length:=by omega
   have e0:=hfr.out.cell id (HC.out _ hh1)
   have hlo':=HLOW.out _ hh1
   have hhi':=HHIGH.out _ hh1
   obtain⟨f,hf⟩:∃ f,xs[(i+j) / 2]=f:=⟨_,rfl⟩
   rw[hf] at e0 hlo' hhi'
   have HLO:=hhd hlo.out;have HHI:=hhd hhi.out;have HLO':=hhd hlo';have HHI':=hhd hhi';have HFR:=hhd hfr.out
   clear hlo hhi hlo' hhi' hf hfr
   have i1:(0:Int)≤((i:Int)+(j:Int)) / 2:=by omega
   have i2:((i:Int)+(j:Int)) / 2 < (xs.length:Int):=by omega
   have i3:((i:Int)+(j:Int)) / 2 < (j:Int):=by omega
   by_cases hft:f.toList < t.toList
   ·go_wp2_with (go_at_call 233;refine(lessS_any _ _ _).mono ?_;rintro e w1 ⟨rfl,rfl⟩)
    go_roundw
    case rel=>exact⟨(i+j) / 2+1,j,by omega,hjn,by go_num,rfl,hhd (HLO'.out hft),HHI,HFR⟩
    case measure=>simp [intOf];omega
   ·go_wp2_with (go_at_call 233;refine(lessS_any _ _ _).mono ?_;rintro e w1 ⟨rfl,rfl⟩)
    go_roundw
    case rel=>exact⟨i,(i+j) / 2,by omega,by omega,rfl,by go_num,HLO,hhd (HHI'.out hft),HFR⟩
    case measure=>simp [intOf];omega
  ·obtain rfl:i=j:=by omega
   have HFR:=hhd hfr.out
   by_cases hin:i < xs.length
   ·obtain rfl:=h3 (by omega)
    have e0:=hfr.out.cell id (HC.out _ hin)
    obtain⟨g1,g2⟩:=HAT.out i hin hlo.out (hhi.out i hin (Nat.le_refl _))
    obtain⟨f,hf⟩:∃ f,xs[i]=f:=⟨_,rfl⟩
    rw[hf] at e0 g1 g2
    have i2:(i:Int) < (xs.length:Int):=by omega
    clear hf hlo hhi hfr HAT HEND
    by_cases hft:f=t
    ·have e':(f.toList == t.toList)=true:=by rw[hft];simp
     have hc:=g1 hft
     subst hc
     clear g1 g2 hft
     go_wp2_with fail
     go_ret2
     first | exact⟨⟨_,rfl⟩,HFR.out⟩ | exact⟨_,rfl,HFR.out⟩
    ·have e':(f.toList == t.toList)=false:=by
      rw[Bool.eq_false_iff];intro h
      have h:=beq_iff_eq.1 h
      rw[ByteArray.toList_eq,ByteArray.toList_eq] at h
      exact hft (ByteArray.ext (Array.toList_inj.1 h))
     have hc:=g2 hft
     subst hc
     clear g1 g2 hft
     go_wp2_with (go_at_call 264;refine(sNaNS_any _ _).mono ?_;rintro e w1 ⟨rfl,rfl⟩)
     go_ret2
     first | exact⟨⟨_,rfl⟩,HFR.out⟩ | exact⟨_,rfl,HFR.out⟩
   ·have hc:=HEND.out fun k hk=>hlo.out k hk (by omega)
    subst hc
    have i2:¬(i:Int) < (xs.length:Int):=by omega
    clear hlo hhi hfr HAT HEND
    go_wp2_with fail
    go_ret2
    first | exact⟨⟨_,rfl⟩,HFR.out⟩ | exact⟨_,rfl,HFR.out⟩
def bothLS(a b:List ByteArray):List ByteArray:=a.filter fun x=>Lib.containsS b x
theorem bothLS_yes{a b:List ByteArray}{i:Nat}(hi:i < a.length)(h:Lib.containsS b a[i]=true):bothLS (a.take (i+1)) b=bothLS (a.take i) b ++ [a[i]]:=by
 unfold bothLS;rw[List.take_succ_eq_append_getElem hi,List.filter_append];simp [h]
theorem bothLS_no{a b:List ByteArray}{i:Nat}(hi:i < a.length)(h:Lib.containsS b a[i]=false):bothLS (a.take (i+1)) b=bothLS (a.take i) b:=by
 unfold bothLS;rw[List.take_succ_eq_append_getElem hi,List.filter_append];simp [h]
theorem bothS_any(W:World)(ba bb:Nat)(va vb:Value)(a b:List ByteArray)(ha:Strs W ba va a)(hb:Strs W bb vb b)(hs:b.Pairwise fun x y=>x.toList < y.toList)(hla:a.length≤4000000000)(hlb:b.length≤4000000000) :
  Calls Tryz.prog 222 #[va,vb] W fun e w'=>∃ v,e = .returned v∧w'.ownsRow W.heap.size 9 1 v (bothLS a b).length ((bothLS a b).map (Value.string ·))∧Fr N0 W w':=by
 obtain⟨i0,hi,hz0,hz1,hz2⟩:=info2_parts infoStr
 have hbs:=fun W' (hf:Fr N0 W W') t=>binS_any W' bb vb b (hb.fr0 hf) t hs (by omega)
 obtain⟨aa,ao,ac,rfl,r1,r2,r3,-,r5⟩:=ha
 obtain⟨n,hn⟩:∃ n,a.length=n:=⟨_,rfl⟩
 obtain⟨Pst,hPst⟩:∃ Pst:Ending→World→Prop,(fun e w'=>∃ v,e = .returned v∧w'.ownsRow W.heap.size 9 1 v (bothLS a b).length ((bothLS a b).map (Value.string ·))∧Fr N0 W w')=Pst:=⟨_,rfl⟩
 have hpost:∀ v w',w'.ownsRow W.heap.size 9 1 v (bothLS a b).length ((bothLS a b).map (Value.string ·))→Fr N0 W w'→Pst (.returned v) w':=fun v w' h1 h2=>by rw[← hPst];exact⟨v,rfl,h1,h2⟩
 rw[hPst]
 have HBS:=hhd hbs;have HR5:=hhd r5;have HN:=hhd hn;have HPOST:=hhd hpost
 rw[hn] at r1 r3 hla ⊢
 clear hbs r5 hn hPst hpost hb hs
 go_enter Tryz.func222,Tryz.ntmps222
 go_wp2_with fail
 go_loopw [5,12] (fun ov iv wr=>∃ (i:Nat) (os:List ByteArray),i≤n∧iv = .int .i64 i∧Hid (os=bothLS (a.take i) b)∧Hid (wr.ownsRow W.heap.size 9 1 ov os.length (os.map (Value.string ·)))∧Hid (Fr N0 W wr)) (fun _ iv _=>n - (intOf iv).toNat)
 case atStart=>exact⟨0,[],Nat.zero_le _,by first | rfl | go_num,hhd (by simp [bothLS]),World.ownsRow_nil _ _ _ _,Fr.refl _ _⟩
 case round=>
  obtain⟨i,os,hi',rfl,hos,hrow,hfr⟩:=hrel
  have hosl:os.length≤4000000000:=by
   rw[hos.out];unfold bothLS
   have h1:=List.length_filter_le (fun x=>Lib.containsS b x) (a.take i)
   rw[List.length_take] at h1
   have:=HN.out
   omega
  have hwz:=hfr.out.size
  by_cases hlt:i < n
  ·obtain rfl:=r3 (by omega)
   have hiu:i < a.length:=by rw[HN.out];exact hlt
   have cu:=hfr.out.cell id (HR5.out i hiu)
   have hyes:=bothLS_yes (b:=b) hiu
   have hno:=bothLS_no (b:=b) hiu
   obtain⟨u,hu⟩:∃ u,a[i]=u:=⟨_,rfl⟩
   rw[hu] at cu hyes hno
   have hcall:=HBS.out _ hfr.out u
   have hi1:(i:Int) < (n:Int):=by omega
   obtain⟨oa,oc,rfl⟩:=row_form hrow.out
   obtain⟨no,hno'⟩:∃ no,os.length=no:=⟨_,rfl⟩
   have hrw:=hrow.out
   rw[hno'] at hrw hosl
   simp only [hno']
   have HCALL:=hhd hcall;have HYES:=hhd hyes;have HNO:=hhd hno;have HOS:=hhd hos.out;have HROW:=hhd hrw;have HFR:=hhd hfr.out;have HN0:=hhd hno'
   clear hcall hyes hno hos hrow hrw hfr hu hno'
   cases hm:Lib.containsS b u with
   | true=>
    rw[hm] at HCALL
    have HNX:=hhd (HYES.out hm)
    go_wp2_with fail
    refine HCALL.out.mono ?_
    rintro e w3 ⟨ix,rfl,hf3⟩
    have HROW3:=hhd (HROW.out.fr0 hf3)
    have HF3:=hhd (HFR.out.then0 hf3)
    have hw3:=HF3.out.size
    clear hf3
    go_wp2_with (at_builtin;go_loud (refine wpList_append_lies _ rfl _ _ 92 rfl (W.heap.size) 9 i0 (.string ⟨#[]⟩) 1 16 Tryz.underlying92 hi hz0 hz1 hz2 rfl (by decide) (.slice oa no oc) (no) _ rfl (HROW3.out.alloc _) ⟨w3.heap.size,0,none⟩ 1 1 [.string u] rfl rfl (World.news_of_block (cs:=#[.string u]) (t:=9) (fr:=(0,0)) (heap_alloc_new w3 _)) (by simp [Value.oneCell']) (by omega) (by unfold maxLen;omega) (by omega) (by simp;omega) (w3.heap.size+1) (by simp) ?_);intro g1 cap1 w4 hown4 hgrow4 hfresh4 hlt4)
    go_roundw
    case rel=>
     have hfa:Fr N0 W w4:=((HF3.out.alloc _).trans ((Fr.refl (fun q=>(Value.slice oa no oc).ownBlock=some q) _).grown hgrow4 fun q e=>.inl e) fun q hq=>.inr (by have:=(ownsRow_lt HROW3.out q hq).1;omega))
     exact⟨i+1,os ++ [u],by omega,by first | rfl | go_num,hhd (by rw[HNX.out,HOS.out]),hhd (by simp only [List.length_append,List.length_cons,List.length_nil,List.map_append,List.map_cons,List.map_nil,HN0.out];exact hown4),hhd hfa⟩
    case measure=>simp [intOf] <;> omega
   | false=>
    rw[hm] at HCALL
    have HNX:=hhd (HNO.out hm)
    go_wp2_with fail
    refine HCALL.out.mono ?_
    rintro e w3 ⟨ix,rfl,hf3⟩
    have HROW3:=hhd (HROW.out.fr0 hf3)
    have HF3:=hhd (HFR.out.then0 hf3)
    clear hf3
    go_wp2_with fail
    go_roundw
    case rel=>exact⟨i+1,os,by omega,by first | rfl | go_num,hhd (by rw[HNX.out,HOS.out]),hhd (by rw[HN0.out];exact HROW3.out),HF3⟩
    case measure=>simp [intOf] <;> omega
  ·obtain rfl:i=n:=by omega
   have hfull:a.take i=a:=by rw[← HN.out,List.take_length]
   have hos2:=hos.out
   rw[hfull] at hos2
   have HOS:=hhd hos2;have HROW:=hhd hrow.out;have HFR:=hhd hfr.out
   clear hos hos2 hrow hfr hfull
   have hi1:¬(i:Int) < (i:Int):=by omega
   go_wp2_with fail
   have hr:=HROW.out
   rw[HOS.out] at hr
   exact HPOST.out _ _ hr HFR.out
end
end Go.Proofs.YtefepfiijoafbaaGreat
