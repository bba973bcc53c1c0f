/- IxE IxF IxG -/
import Derived.Deep.RegionHeld3
import Derived.Test.YtefepfiijoafbaaGreatQBinS
import Derived.Test.YtefepfiijoafbaaGreatQROne
import Derived.Test.YtefepfiijoafbaaGreatQQuiet
import Derived.Test.YtefepfiijoafbaaGreatQFindK
import Derived.Test.YtefepfiijoafbaaGreatQFitB
import Derived.Test.YtefepfiijoafbaaGreatQRFind
set_option linter.unusedVariables false
set_option linter.unusedSimpArgs false
set_option maxRecDepth 100000
set_option maxHeartbeats 4000000
namespace Go.Proofs.YtefepfiijoafbaaGreat
section
open Go.RowKit Go.Shelf Go.Maps Go.Sort
attribute [local go_sem] Oper.semAt_some
attribute [local go_sem ↓] Go.wp_at_zero Go.wp_at_succ
attribute [local irreducible] wpQuiet
theorem terms_rise(s:ByteArray):(termsOf s).Pairwise fun a b=>a.toList < b.toList:=by
 unfold termsOf normS
 rw[List.pairwise_map]
 refine(normL_rises _).1.imp fun {a b} h=>?_
 rw[mkS_toList,mkS_toList];exact h
def allE(l own:List ByteArray):Bool:=decide (0 < l.length) && decide ((bothLS l own).length=l.length)
theorem bothLS_all{l own:List ByteArray}:(bothLS l own).length=l.length↔∀ t ∈ l,Lib.containsS own t=true:=by
 unfold bothLS
 constructor
 ·intro h t ht
  have h1:(l.filter fun x=>Lib.containsS own x)=l:=by
   have:=List.filter_sublist (p:=fun x=>Lib.containsS own x) (l:=l)
   exact this.eq_of_length h
  rw[← h1] at ht
  exact(List.mem_filter.1 ht).2
 ·intro h
  rw[List.filter_eq_self.2 fun x hx=>h x hx]
theorem allE_allT(q s:ByteArray):allE (termsOf q) (termsOf s)=allT q s:=by
 unfold allE allT
 rw[Bool.eq_iff_iff,Bool.and_eq_true,decide_eq_true_eq,decide_eq_true_eq,bothLS_all,List.length_pos_iff]
 simp only [Lib.containsS_iff,decide_eq_true_eq]
abbrev EvS(B bl:Nat)(xc:Array Value)(lv:Value)(w W:World):Prop:=BoxB B xc W∧BoxB bl #[lv] W∧Fr N0 w W
theorem evS_keep{B bl:Nat}{xc:Array Value}{lv:Value}{w W W':World}(h:EvS B bl xc lv w W)(hf:Fr N0 W W'):EvS B bl xc lv w W':=⟨boxB_keep hf id h.1,boxB_keep hf id h.2.1,h.2.2.then0 hf⟩
theorem enters_ixEvery1:∀ args w,(callFunc 221 args).run Tryz.prog w = .ok (.enter 221 args) w:=enters_of Tryz.func221 (by kernel_rfl) rfl
theorem ixEvery1_any(w:World)(bl b:Nat)(lv:Value)(l:List ByteArray)(x:Val)(hx:x.s.size≤100000)(hb:w.heap[bl]?=some (.cells #[lv] 92 (0,0)))(hS:Strs w b lv l)(hl:l.length≤1000000) :
  Calls Tryz.prog 221 #[.agg x.enc.toArray,.pointer (some ⟨bl,0,none⟩)] w fun e w'=>e = .returned (.bool (allE l (termsOf x.s)))∧Fr N0 w w':=by
 obtain⟨xk,xb,xn,xs,xu⟩:=x
 simp only [Val.enc] at hx ⊢
 have hte:=fun W=>vTerms_any W xs hx
 have htl:=termsOf_len xs
 have htr:=terms_rise xs
 obtain⟨own,hown⟩:∃ own,termsOf xs=own:=⟨_,rfl⟩
 rw[hown] at htl htr ⊢
 simp only [hown] at hte
 have hf0:Fr N0 w (w.alloc (.cells #[.int .u8 xk,.bool xb,.int .i64 xn,.string xs,.int .u64 xu] 57)):=(Fr.refl N0 w).alloc _
 have hb1:=World.alloc_heap_new w (.cells #[.int .u8 xk,.bool xb,.int .i64 xn,.string xs,.int .u64 xu] 57)
 have hb2:=(hf0.at (k:=bl) id (lt_of_block hb)).trans hb
 have hbo:∀ W W' bv v (hS:Strs W b lv l) (hO:Strs W' bv v own),Fr N0 W W'→Calls Tryz.prog 222 #[lv,v] W' fun e w'=>∃ a c,e = .returned (.slice a (bothLS l own).length c)∧Fr N0 W' w':=fun W W' bv v hS hO hf=>(bothS_any W' b bv lv v l own (hS.fr0 hf) hO htr (by omega) (by omega)).mono fun e w' hh=>by
  obtain⟨v',rfl,hr,hf2⟩:=hh
  obtain⟨a,c,rfl⟩:=row_form hr
  exact⟨a,c,rfl,hf2⟩
 have hS1:=hS.fr0 hf0
 obtain⟨a,off,cap,rfl,-⟩:=id hS
 obtain⟨n,hn⟩:∃ n,l.length=n:=⟨_,rfl⟩
 have hres:allE l own=(decide (0 < n) && decide ((bothLS l own).length=n)):=by unfold allE;rw[hn]
 obtain⟨m,hm⟩:∃ m,(bothLS l own).length=m:=⟨_,rfl⟩
 rw[hm] at hres
 simp only [hm] at hbo
 rw[hres]
 rw[hn] at hb2 hS1 hbo
 have HTE:=hhd hte;have HBO:=hhd hbo;have HS1:=hhd hS1;have HB1:=hhd hb1;have HB2:=hhd hb2;have HF0:=hhd hf0
 clear hte hf0 hb1 hb2 hbo hS1 hS hb hown htr hres hm hn
 go_enter Tryz.func221,Tryz.ntmps221
 go_wp2_with fail
 refine(HTE.out _).mono ?_
 rintro e w1 ⟨v1,b1,rfl,hO1,hf1⟩
 have hbb:=(hf1.at (k:=bl) id (lt_of_block HB2.out)).trans HB2.out
 have hbx:=(hf1.at (k:=w.heap.size) id (lt_of_block HB1.out)).trans HB1.out
 have HF1:=hhd (HF0.out.then0 hf1);have HO1:=hhd hO1;have HG1:=hhd hf1
 by_cases h0:0 < n
 ·have h0':(0:Int) < (n:Int):=by omega
  have hS0:EvS w.heap.size bl #[.int .u8 xk,.bool xb,.int .i64 xn,.string xs,.int .u64 xu] (.slice a n cap) w w1.drew:=evS_keep (W:=w1) ⟨⟨(box_cells hbx).1,lt_of_block hbx⟩,⟨(box_cells hbb).1,lt_of_block hbb⟩,HF1.out⟩ (Fr.refl _ _).drew
  have HBB:=hhd (HBO.out _ w1.drew b1 v1 HS1.out (HO1.out.fr0 (Fr.refl N0 w1).drew) (HG1.out.then0 (Fr.refl N0 w1).drew))
  clear hbb hbx hO1 hf1
  go_wp2_with fail
  go_region_held3 (EvS w.heap.size bl #[.int .u8 xk,.bool xb,.int .i64 xn,.string xs,.int .u64 xu] (.slice a n cap) w) (first
   |(with_reducible assumption)
   | fail) (first
   |(go_simp;go_at_call 222;refine HBB.out.mono ?_;rintro e w3 ⟨a3,c3,rfl,hf3⟩;have hs3:=evS_keep hS0 hf3)
   | fail)
  all_goals
   go_wp2_with fail
   go_ret
   refine⟨?_,hs3.2.2⟩
   by_cases hmn:m=n
   ·simp [hmn,h0];try rfl
   ·have:¬(m:Int)=(n:Int):=by omega
    simp [hmn,this];try rfl
 ·have h0':¬(0:Int) < (n:Int):=by omega
  have h0d:decide ((0:Int) < (n:Int))=false:=decide_eq_false h0'
  have h0e:decide (0 < n)=false:=decide_eq_false h0
  have cb:=(box_cells hbb).1 0
  simp only [List.getElem?_toArray,List.getElem?_cons_zero] at cb
  obtain⟨S,hK2,hxS,hSS⟩:=kept_open (kept_cons cb (kept_start HF1.out))
  have HSS:=hhd hSS
  have x1:=fun x=>(hxS x).1
  clear hxS hSS hbb hbx hO1 hf1 cb
  go_wp2_with fail
  refine wp_region_kept hK2 (by kernel_rfl) (by kernel_rfl) ?_
  intro hne
  repeat (quiet_step (fail))
  refine wpQuiet_nil ?_
  rintro wr ⟨⟨_,hr⟩,rfl⟩
  replace hr:=hhd (HSS.out _ hr).2
  clear x1 hK2 hne HSS S
  go_wp2_with fail
  go_ret
  exact⟨by simp [h0];try rfl,hr.out⟩
end
section
open Go.RowKit Go.Shelf Go.Maps Go.Sort
attribute [local go_sem] Oper.semAt_some
attribute [local irreducible] wpQuiet
theorem join_union_mem{Nt:ByteArray→List Int}:∀ l:List ByteArray,∀ u,u ∈ joinT (fun a b=>normU (a ++ b)) Nt l↔∃ t ∈ l,u ∈ Nt t:=by
 refine list_snoc (C:=fun l=>∀ u,u ∈ joinT (fun a b=>normU (a ++ b)) Nt l↔∃ t ∈ l,u ∈ Nt t) (by simp [joinT]) fun l t ih u=>?_
 rw[joinT_snoc]
 split
 ·rename_i h;subst h;simp
 ·rw[normU_mem,List.mem_append,ih]
  constructor
  ·rintro(⟨s,hs,h⟩ | h)
   ·exact⟨s,by simp [hs],h⟩
   ·exact⟨t,by simp,h⟩
  ·rintro⟨s,hs,h⟩
   rcases List.mem_append.1 hs with hs | hs
   ·exact .inl ⟨s,hs,h⟩
   ·rw[List.mem_singleton.1 hs] at h;exact .inr h
theorem join_both_mem{Nt:ByteArray→List Int}:∀ l:List ByteArray,l≠[]→∀ u,u ∈ joinT bothL Nt l↔∀ t ∈ l,u ∈ Nt t:=by
 refine list_snoc (C:=fun l=>l≠[]→∀ u,u ∈ joinT bothL Nt l↔∀ t ∈ l,u ∈ Nt t) (fun h=>absurd rfl h) fun l t ih _ u=>?_
 rw[joinT_snoc]
 split
 ·rename_i h;subst h;simp
 ·rename_i h
  show u ∈ (joinT bothL Nt l).filter (fun x=>decide (x ∈ Nt t))↔_
  rw[List.mem_filter,ih h]
  constructor
  ·rintro⟨h1,h2⟩ s hs
   rcases List.mem_append.1 hs with hs | hs
   ·exact h1 s hs
   ·rw[List.mem_singleton.1 hs];simpa using h2
  ·intro hh
   exact⟨fun s hs=>hh s (by simp [hs]),by simpa using hh t (by simp)⟩
section
variable (W:World) (lo px bn bb N:Nat) (H:Int→List Val) (B:Int→List Int) (h:LookAt W lo px bn bb N H B) (hH:HOk H N) (hN:N≤900000000) (hsz:∀ u,∀ x ∈ H u,x.s.size≤100000) (q:ByteArray) (hq:q.size≤100000) (ks:List Int) (hks:NodesOf H ks) (hkl:ks.length≤N)
include h hH hN hsz hq hks hkl
theorem ixAny_any:Calls Tryz.prog 167 #[.pointer (some ⟨px,0,none⟩),.string q,.func (.func 168) #[] #[]] W (NewInts W fun u=>(H u).any (fun v=>anyT q v.s)=true):=by
 obtain⟨Nt,hNt⟩:=exists_terms hks
 have hall:=joinT_all join_union hNt.rises (fun _=>True) (fun _ _ _=>trivial) (termsOf q)
 refine(ixTerms_any W lo px bn bb N H B h hH hN hsz q hq 168 _ join_union Nt hNt ks hks hkl).mono fun e w' hh=>?_
 obtain⟨v,rfl,hr,hf⟩:=hh
 refine⟨v,_,rfl,hr,hall.1,fun u=>?_,hf⟩
 rw[join_union_mem]
 constructor
 ·rintro⟨t,ht,hu⟩
  obtain⟨x,hx,hc⟩:=List.any_eq_true.1 ((hNt.mem t u).1 hu)
  refine List.any_eq_true.2 ⟨x,hx,?_⟩
  unfold anyT
  simp only [decide_eq_true_eq]
  exact⟨t,ht,(Lib.containsS_iff _ _).1 hc⟩
 ·intro hu
  obtain⟨x,hx,hc⟩:=List.any_eq_true.1 hu
  unfold anyT at hc
  simp only [decide_eq_true_eq] at hc
  obtain⟨t,ht,htx⟩:=hc
  exact⟨t,ht,(hNt.mem t u).2 (List.any_eq_true.2 ⟨x,hx,(Lib.containsS_iff _ _).2 htx⟩)⟩
theorem ixEvery_any:Calls Tryz.prog 170 #[.pointer (some ⟨px,0,none⟩),.string q] W (NewInts W fun u=>(H u).any (fun v=>allT q v.s)=true):=by
 obtain⟨Nt,hNt⟩:=exists_terms hks
 have hall:=joinT_all join_both hNt.rises (fun u=>H u≠[]) (fun t u hu e=>by
  have:=(hNt.mem t u).1 hu
  rw[e] at this;simp at this) (termsOf q)
 have hlenJ:(joinT bothL Nt (termsOf q)).length≤N:=Nat.le_trans (rises_len hall.1 hks.rises fun u hu=>(hks.mem u).2 (hall.2 u hu)) hkl
 have hwfJ:∀ u ∈ joinT bothL Nt (termsOf q),(Lit.int .u64 u).wf=true:=fun u hu=>hH.key u (hall.2 u hu)
 have hte:=fun W=>vTerms_any W q hq
 have htl:=termsOf_len q
 have htm:=fun W' (hf:Fr N0 W W')=>ixTerms_any W' lo px bn bb N H B (h.fr hf) hH hN hsz q hq 220 _ join_both Nt hNt ks hks hkl
 obtain⟨One,hOne⟩:∃ One:List Int,One=ks.filter fun u=>(H u).any fun v=>allT q v.s:=⟨_,rfl⟩
 have hOr:RisesBy id One:=by rw[hOne];exact List.Pairwise.sublist List.filter_sublist hks.rises
 have hOm:∀ u,u ∈ One↔(H u).any (fun v=>allT q v.s)=true:=fun u=>by
  rw[hOne,List.mem_filter]
  exact⟨fun h=>h.2,fun h=>⟨(hks.mem u).2 fun e=>by rw[e] at h;simp at h,h⟩⟩
 have hOl:One.length≤N:=by rw[hOne];exact Nat.le_trans (List.length_filter_le _ _) hkl
 have hOw:∀ u ∈ One,(Lit.int .u64 u).wf=true:=fun u hu=>hH.key u fun e=>by
  have:=(hOm u).1 hu
  rw[e] at this;simp at this
 have hwh:=fun W' (hf:Fr N0 W W') bl b lv (hb:W'.heap[bl]?=some (.cells #[lv] 92 (0,0))) (hS:Strs W' b lv (termsOf q))=>
  (where_any W' lo px bn bb N H B (h.fr hf) hH (by omega) 221 #[.pointer (some ⟨bl,0,none⟩)] (fun v=>allT q v.s) (fun u x hx W2 hW2=>by
   have hh:=ixEvery1_any W2 bl b lv (termsOf q) x (hsz u x hx) ((hW2.at id (lt_of_block hb)).trans hb) (hS.fr0 hW2) (by omega)
   rw[allE_allT] at hh
   exact hh) enters_ixEvery1).mono fun e w' hh=>hh.are hOr hOm
 have hfin:RisesBy id (bothL (joinT bothL Nt (termsOf q)) One)∧∀ u,u ∈ bothL (joinT bothL Nt (termsOf q)) One↔(H u).any (fun v=>allT q v.s)=true:=by
  refine⟨List.Pairwise.sublist List.filter_sublist hall.1,fun u=>?_⟩
  unfold bothL
  rw[List.mem_filter]
  constructor
  ·rintro⟨-,h2⟩;exact(hOm u).1 (by simpa using h2)
  ·intro hu
   refine⟨?_,by simpa using (hOm u).2 hu⟩
   obtain⟨x,hx,hc⟩:=List.any_eq_true.1 hu
   unfold allT at hc
   simp only [decide_eq_true_eq] at hc
   exact(join_both_mem _ hc.1 u).2 fun t ht=>(hNt.mem t u).2 (List.any_eq_true.2 ⟨x,hx,(Lib.containsS_iff _ _).2 (hc.2 t ht)⟩)
 obtain⟨Pst,hPst⟩:∃ Pst,NewInts W (fun u=>(H u).any (fun v=>allT q v.s)=true)=Pst:=⟨_,rfl⟩
 obtain⟨l,hl⟩:∃ l,termsOf q=l:=⟨_,rfl⟩
 rw[hl] at hlenJ hwfJ hall hfin
 simp only [hl] at hte htm hwh
 obtain⟨js,hjs⟩:∃ js,joinT bothL Nt l=js:=⟨_,rfl⟩
 rw[hjs] at hlenJ hwfJ hfin
 simp only [hjs] at htm
 have hpost:∀ v w',w'.ownsRow W.heap.size 33 1 v (bothL js One).length ((bothL js One).map (Value.int .u64))→Fr N0 W w'→Pst (.returned v) w':=fun v w' h1 h2=>by rw[← hPst];exact⟨v,_,rfl,h1,hfin.1,hfin.2,h2⟩
 rw[hPst]
 have HTE:=hhd hte;have HTM:=hhd htm;have HWH:=hhd hwh;have HPOST:=hhd hpost;have HWJ:=hhd hwfJ;have HOW:=hhd hOw;have HOR:=hhd hOr
 clear hte htm hwh hpost hwfJ hOw hOr hOm hfin hall hPst hl hjs hOne hNt h hH hsz hks
 go_enter Tryz.func170,Tryz.ntmps170
 go_wp2_with fail
 refine(HTE.out _).mono ?_
 rintro e w1 ⟨v1,b1,rfl,hS1,hf1⟩
 have hfa:Fr N0 w1 (w1.alloc (.cells #[v1] 92)):=(Fr.refl N0 w1).alloc _
 have HS1:=hhd (hS1.fr0 hfa);have HF1:=hhd (hf1.then0 hfa);have HB1:=hhd (World.alloc_heap_new w1 (.cells #[v1] 92))
 have htc:=HTM.out _ HF1.out
 have HTC:=hhd htc
 obtain⟨sa,so,sc,rfl,-⟩:=hS1
 clear hf1 hfa htc HTE HTM
 go_wp2_with fail
 refine HTC.out.mono ?_
 rintro e w2 ⟨v2,rfl,hr2,hf2⟩
 have HF2:=hhd (HF1.out.then0 hf2)
 have hwc:=HWH.out _ HF2.out w1.heap.size b1 _ ((hf2.at id (lt_of_block HB1.out)).trans HB1.out) (HS1.out.fr0 hf2)
 have HWC:=hhd hwc;have HR2:=hhd hr2
 clear hwc hr2 hf2 HWH
 go_wp2_with fail
 refine HWC.out.mono ?_
 rintro e w3 ⟨oa,oc,rfl,hr3,hf3⟩
 have HF3:=hhd (HF2.out.then0 hf3)
 obtain⟨jb,-,hIJ⟩:=ints_rowH (HR2.out.fr0 hf3) HWJ.out
 obtain⟨ob,-,hIO⟩:=ints_rowH hr3 HOW.out
 have hcb:=both4_any w3 jb ob _ _ _ _ hIJ hIO (HOR.out.imp fun h=>Int.le_of_lt h) (by omega) (by omega)
 have HCB:=hhd hcb
 have hw3:=HF3.out.size
 clear hcb hr3 hf3 hIJ hIO
 go_wp2_with fail
 refine HCB.out.mono ?_
 rintro e w4 ⟨v4,rfl,hr4,hf4⟩
 have HR4:=hhd (ownsRow_base hr4 hw3);have HF4:=hhd (HF3.out.then0 hf4)
 clear hr4 hf4
 go_wp2_with fail
 exact HPOST.out _ _ HR4.out HF4.out
end
theorem enters_fAny:∀ args w,(callFunc 166 args).run Tryz.prog w = .ok (.enter 166 args) w:=enters_of Tryz.func166 (by kernel_rfl) rfl
theorem enters_fAll:∀ args w,(callFunc 169 args).run Tryz.prog w = .ok (.enter 169 args) w:=enters_of Tryz.func169 (by kernel_rfl) rfl
section
variable (W:World) (px:Nat) (kd:Int) (pred:ByteArray) (back:Bool) (uv sv:Value) (b off n c:Nat) (q:ByteArray) (hn:0 < n) (hq:W.cell? ⟨b,off+3,none⟩=some (.string q)) (Q:Ending→World→Prop)
include hn hq
theorem fAny_walk(hc:∀ W',Fr N0 W W'→Calls Tryz.prog 167 #[.pointer (some ⟨px,0,none⟩),.string q,.func (.func 168) #[] #[]] W' fun e w'=>(∃ v,e = .returned v)∧Q e w') :
  Calls Tryz.prog 166 #[.pointer (some ⟨px,0,none⟩),.agg #[.int .u8 kd,.string pred,.bool back,.slice (some ⟨b,off,none⟩) n c,uv,sv]] W Q:=by
 have hn0:(0:Int) < (n:Int):=by omega
 have hf0:Fr N0 W (W.alloc (.cells #[.int .u8 kd,.string pred,.bool back,.slice (some ⟨b,off,none⟩) n c,uv,sv] 94)):=(Fr.refl N0 W).alloc _
 have hq2:=hf0.cell id hq
 have HC:=hhd (hc _ hf0)
 clear hc hq hf0
 go_enter Tryz.func166,Tryz.ntmps166
 go_wp2_with fail
 refine HC.out.mono ?_
 rintro e w1 ⟨⟨v,rfl⟩,hQ⟩
 have HQ:=hhd hQ
 clear hQ
 go_wp2_with fail
 exact HQ.out
theorem fAll_walk(hc:∀ W',Fr N0 W W'→Calls Tryz.prog 170 #[.pointer (some ⟨px,0,none⟩),.string q] W' fun e w'=>(∃ v,e = .returned v)∧Q e w') :
  Calls Tryz.prog 169 #[.pointer (some ⟨px,0,none⟩),.agg #[.int .u8 kd,.string pred,.bool back,.slice (some ⟨b,off,none⟩) n c,uv,sv]] W Q:=by
 have hn0:(0:Int) < (n:Int):=by omega
 have hf0:Fr N0 W (W.alloc (.cells #[.int .u8 kd,.string pred,.bool back,.slice (some ⟨b,off,none⟩) n c,uv,sv] 94)):=(Fr.refl N0 W).alloc _
 have hq2:=hf0.cell id hq
 have HC:=hhd (hc _ hf0)
 clear hc hq hf0
 go_enter Tryz.func169,Tryz.ntmps169
 go_wp2_with fail
 refine HC.out.mono ?_
 rintro e w1 ⟨⟨v,rfl⟩,hQ⟩
 have HQ:=hhd hQ
 clear hQ
 go_wp2_with fail
 exact HQ.out
end
section
variable {W:World} {R:Nat→Prop} {p:Nat} {l:PL} {N:Nat} {t:Int} {ks:List Int} {fn:Fn} {vv uv sv:Value} {b:Nat} (h:FindPre W R p l N t ks fn vv uv sv b) (hN:N≤900000000) (h0:0 < fn.vals.length)
include h hN h0
theorem ifind_any(hk:fn.kind=4) :
  Calls Tryz.prog 41 #[.pointer (some ⟨p,0,none⟩),.agg (fn.enc vv uv sv),.int .u64 t] W (FindPost W (fnFits l.s fn) (t < l.marked) (anyP (haveAt l t) fun v=>anyT fn.vals[0].s v.s)):=by
 refine h.core 166 _ (by rw[hk];decide) enters_fAny fun hfit w3 bm F hw hfd=>⟨#[],by rw[hk];exact hfd.any,fun w4 lo px bn bb h34 hl=>?_⟩
 have hm:fnMay fn=0:=by
  unfold fnFits at hfit
  by_cases hm:fnMay fn=0
  ·exact hm
  ·rw[if_pos hm] at hfit;exact absurd hfit hm
 have hok:=haveAt_ok h.ok t
 have hkl:=Nat.le_trans (nodes_len fun u hu=>(h.ks.mem u).1 hu) (trsOf_len h.ok t h.ks.rises)
 have hV:=(h.fn.fr (hw.then0 h34)).vals
 obtain⟨off,c,e,hc⟩:=row_cellV hV h0
 obtain⟨-,c3⟩:=hc 0 h0
 have hq:fn.vals[0].s.size≤100000:=by have:=valMay_size (valsOk_may (fnMay_zero hm).2.2.2 _ (List.getElem_mem h0));omega
 obtain⟨q,hqe⟩:∃ q,fn.vals[0].s=q:=⟨_,rfl⟩
 rw[hqe] at c3 hq ⊢
 subst e
 simp only [Nat.zero_mul,Nat.add_zero] at c3
 have hall:=fun W' (hW:Fr N0 w4 W')=>(ixAny_any W' lo px bn bb N (haveAt l t) _ (hl.fr hW) hok hN (fun u x hx=>by have:=valMay_size ((hok.ok u).may x hx).1;omega) q hq ks h.ks hkl).mono fun e w' hh=>(show(∃ v,e = .returned v)∧NewInts w4 (anyP (haveAt l t) fun v=>anyT q v.s) e w' from⟨by obtain⟨v,xs,h1,-⟩:=hh;exact⟨v,h1⟩,NewInts.from hh hW⟩)
 obtain⟨kd,pred,back,vals,nu,ns⟩:=fn
 simpa [Fn.enc] using fAny_walk w4 px kd pred back uv sv b off vals.length c q h0 c3 _ hall
theorem ifind_all(hk:fn.kind=5) :
  Calls Tryz.prog 41 #[.pointer (some ⟨p,0,none⟩),.agg (fn.enc vv uv sv),.int .u64 t] W (FindPost W (fnFits l.s fn) (t < l.marked) (anyP (haveAt l t) fun v=>allT fn.vals[0].s v.s)):=by
 refine h.core 169 _ (by rw[hk];decide) enters_fAll fun hfit w3 bm F hw hfd=>⟨#[],by rw[hk];exact hfd.all,fun w4 lo px bn bb h34 hl=>?_⟩
 have hm:fnMay fn=0:=by
  unfold fnFits at hfit
  by_cases hm:fnMay fn=0
  ·exact hm
  ·rw[if_pos hm] at hfit;exact absurd hfit hm
 have hok:=haveAt_ok h.ok t
 have hkl:=Nat.le_trans (nodes_len fun u hu=>(h.ks.mem u).1 hu) (trsOf_len h.ok t h.ks.rises)
 have hV:=(h.fn.fr (hw.then0 h34)).vals
 obtain⟨off,c,e,hc⟩:=row_cellV hV h0
 obtain⟨-,c3⟩:=hc 0 h0
 have hq:fn.vals[0].s.size≤100000:=by have:=valMay_size (valsOk_may (fnMay_zero hm).2.2.2 _ (List.getElem_mem h0));omega
 obtain⟨q,hqe⟩:∃ q,fn.vals[0].s=q:=⟨_,rfl⟩
 rw[hqe] at c3 hq ⊢
 subst e
 simp only [Nat.zero_mul,Nat.add_zero] at c3
 have hall:=fun W' (hW:Fr N0 w4 W')=>(ixEvery_any W' lo px bn bb N (haveAt l t) _ (hl.fr hW) hok hN (fun u x hx=>by have:=valMay_size ((hok.ok u).may x hx).1;omega) q hq ks h.ks hkl).mono fun e w' hh=>(show(∃ v,e = .returned v)∧NewInts w4 (anyP (haveAt l t) fun v=>allT q v.s) e w' from⟨by obtain⟨v,xs,h1,-⟩:=hh;exact⟨v,h1⟩,NewInts.from hh hW⟩)
 obtain⟨kd,pred,back,vals,nu,ns⟩:=fn
 simpa [Fn.enc] using fAll_walk w4 px kd pred back uv sv b off vals.length c q h0 c3 _ hall
end
end
end Go.Proofs.YtefepfiijoafbaaGreat
