/- BsV HaveP HaveP2 HaveM InsV LoR DelV -/
import Derived.Test.YtefepfiijoafbaaGreatQVOrd3
import Derived.Test.YtefepfiijoafbaaGreatQValR
import Derived.Test.YtefepfiijoafbaaGreatQValO
import Derived.Test.YtefepfiijoafbaaGreatQDelW
import Derived.Test.YtefepfiijoafbaaGreatQBS
set_option linter.unusedVariables false
set_option linter.unusedSimpArgs false
set_option maxRecDepth 100000
set_option maxHeartbeats 4000000
namespace Go.Proofs.YtefepfiijoafbaaGreat
section
open Go.RowKit Go.Shelf Go.Maps
attribute [local go_sem] Oper.semAt_some
abbrev Cell5(b p:Nat)(v0 v1 v2 v3 v4:Value)(W:World):Prop:=W.cell? ⟨b,p,none⟩=some v0∧W.cell? ⟨b,p+1,none⟩=some v1∧W.cell? ⟨b,p+2,none⟩=some v2∧W.cell? ⟨b,p+3,none⟩=some v3∧W.cell? ⟨b,p+4,none⟩=some v4
theorem cell5_fr{b p:Nat}{v0 v1 v2 v3 v4:Value}{W W':World}(h:Cell5 b p v0 v1 v2 v3 v4 W)(hf:Fr N0 W W'):Cell5 b p v0 v1 v2 v3 v4 W':=⟨hf.cell id h.1,hf.cell id h.2.1,hf.cell id h.2.2.1,hf.cell id h.2.2.2.1,hf.cell id h.2.2.2.2⟩
abbrev Two5(b p c:Nat)(v0 v1 v2 v3 v4 u0 u1 u2 u3 u4:Value)(W:World):Prop:=Cell5 b p v0 v1 v2 v3 v4 W∧Cell5 c 0 u0 u1 u2 u3 u4 W
theorem two5_fr{b p c:Nat}{v0 v1 v2 v3 v4 u0 u1 u2 u3 u4:Value}{W W':World}(h:Two5 b p c v0 v1 v2 v3 v4 u0 u1 u2 u3 u4 W)(hf:Fr N0 W W'):Two5 b p c v0 v1 v2 v3 v4 u0 u1 u2 u3 u4 W':=⟨cell5_fr h.1 hf,cell5_fr h.2 hf⟩
noncomputable def thereV(xs:List Val)(x:Val)(P:Nat):Bool:=by
 classical exact decide (∃ h:P < xs.length,(vCmpR xs[P] x).1=0)
theorem thereV_at{xs:List Val}{x:Val}{P:Nat}(h:P < xs.length):thereV xs x P=((vCmpR xs[P] x).1 == 0):=by
 unfold thereV
 by_cases h0:(vCmpR xs[P] x).1=0
 ·simp [h,h0]
 ·simp [h,h0]
theorem thereV_end{xs:List Val}{x:Val}{P:Nat}(h:¬ P < xs.length):thereV xs x P=false:=by
 unfold thereV;simp [h]
theorem bsv_any(w:World)(b:Nat)(v:Value)(xs:List Val)(h:RowsK Val.enc 5 w b v xs)(x:Val)(hx:0≤x.u)(hxs:∀ y ∈ xs,0≤y.u)(P:Nat)(hP:P≤xs.length)(hlo:∀ k (h:k < xs.length),k < P→(vCmpR xs[k] x).1 < 0)(hhi:∀ k (h:k < xs.length),P≤k→0≤(vCmpR xs[k] x).1)(hl:xs.length≤17592186044416) :
  Calls Tryz.prog 208 #[v,.agg x.enc.toArray,.func (.func 209) #[] #[]] w fun e w'=>e = .returned (.tuple #[.int .i64 P,.bool (thereV xs x P)])∧Fr N0 w w':=by
 obtain⟨a,off,cap,rfl,h1,h2,h3,-,h6⟩:=h
 have hc:∀ k (hk:k < xs.length) W,Calls Tryz.prog 209 #[.agg xs[k].enc.toArray,.agg x.enc.toArray] W fun e w'=>e = .returned (.int .i64 (vCmpR xs[k] x).1)∧Fr N0 W w':=fun k hk W=>pOrd_any _ _ (hxs _ (List.getElem_mem hk)) hx W
 have HC:=hhd h6;have HCC:=hhd hc;have HLO:=hhd hlo;have HHI:=hhd hhi
 have ht1:=fun h=>thereV_at (xs:=xs) (x:=x) (P:=P) h
 have ht2:=fun h=>thereV_end (xs:=xs) (x:=x) (P:=P) h
 obtain⟨R,hR⟩:∃ R,thereV xs x P=R:=⟨_,rfl⟩
 simp only [hR] at ht1 ht2 ⊢
 have HT1:=hhd ht1;have HT2:=hhd ht2
 clear h6 hc hlo hhi hx hxs ht1 ht2 hR
 obtain⟨xk,xb,xn,xs',xu⟩:=x
 unfold Val.enc at HC HCC ⊢
 simp only at HC HCC ⊢
 have hnew:=boxB_new (World.alloc_heap_new w (.cells #[.int .u8 xk,.bool xb,.int .i64 xn,.string xs',.int .u64 xu] 57))
 have HN:=hhd hnew
 clear hnew
 go_enter Tryz.func208,Tryz.ntmps208
 go_wp2
 go_loopw [9,10] (fun si sj wr=>∃ (i j:Nat),i≤P∧P≤j∧j≤xs.length∧si = .int .i64 i∧sj = .int .i64 j∧Fr N0 (w.alloc (.cells #[.int .u8 xk,.bool xb,.int .i64 xn,.string xs',.int .u64 xu] 57)) wr) (fun si sj _=>(intOf sj).toNat - (intOf si).toNat)
 case atStart=>exact⟨0,xs.length,Nat.zero_le _,hP,Nat.le_refl _,by go_num,rfl,Fr.refl _ _⟩
 case round=>
  obtain⟨i,j,hiP,hPj,hjn,rfl,rfl,hfr⟩:=hrel
  have hbx:=boxB_keep hfr id HN.out
  have b0:=hbx.1 0;have b1:=hbx.1 1;have b2:=hbx.1 2;have b3:=hbx.1 3;have b4:=hbx.1 4
  simp only [List.getElem?_toArray,List.getElem?_cons_zero,List.getElem?_cons_succ] at b0 b1 b2 b3 b4
  have hfw:Fr N0 w _:=((Fr.refl N0 w).alloc _).then0 hfr
  by_cases hlt:i < j
  ·obtain rfl:=h3 (by omega)
   obtain⟨m,hm⟩:∃ m,(i+j) / 2=m:=⟨_,rfl⟩
   have hh1:(i+j) / 2 < xs.length:=by omega
   have e0:=hfw.cell (fun h=>h) (HC.out _ hh1 0 (by decide))
   have e1:=hfw.cell (fun h=>h) (HC.out _ hh1 1 (by decide))
   have e2:=hfw.cell (fun h=>h) (HC.out _ hh1 2 (by decide))
   have e3:=hfw.cell (fun h=>h) (HC.out _ hh1 3 (by decide))
   have e4:=hfw.cell (fun h=>h) (HC.out _ hh1 4 (by decide))
   have hcall:=fun W=>HCC.out _ hh1 W
   have hlt':(i+j) / 2 < P→(vCmpR xs[(i+j) / 2] ⟨xk,xb,xn,xs',xu⟩).1 < 0:=HLO.out _ hh1
   have hge':P≤(i+j) / 2→¬(vCmpR xs[(i+j) / 2] ⟨xk,xb,xn,xs',xu⟩).1 < 0:=fun h=>by have:=HHI.out _ hh1 h;omega
   simp only [List.getElem?_cons_zero,List.getElem?_cons_succ,Nat.add_zero] at e0 e1 e2 e3 e4
   obtain⟨c,hc⟩:∃ c,(vCmpR xs[(i+j) / 2] ⟨xk,xb,xn,xs',xu⟩).1=c:=⟨_,rfl⟩
   rw[hc] at hcall hlt' hge'
   clear hc
   obtain⟨y,hy⟩:∃ y,xs[(i+j) / 2]=y:=⟨_,rfl⟩
   rw[hy] at e0 e1 e2 e3 e4 hcall
   obtain⟨yk,yb,yn,ys,yu⟩:=y
   simp only at e0 e1 e2 e3 e4 hcall
   have HCALL:=hhd hcall;have HLT:=hhd hlt';have HGE:=hhd hge';have HFR:=hhd hfr
   have hwn:(i+j) / 2=(((i:Int)+(j:Int)) / 2).toNat:=by omega
   rw[hwn] at e0 e1 e2 e3 e4
   clear hwn
   have H5:Hid (Two5 b (off+(((i:Int)+(j:Int)) / 2).toNat * 5) w.heap.size (.int .u8 yk) (.bool yb) (.int .i64 yn) (.string ys) (.int .u64 yu) (.int .u8 xk) (.bool xb) (.int .i64 xn) (.string xs') (.int .u64 xu) _):=hhd ⟨⟨e0,e1,e2,e3,e4⟩,b0,b1,b2,b3,b4⟩
   clear b0 b1 b2 b3 b4 e0 e1 e2 e3 e4
   clear hy hcall hlt' hge' hfr hfw hbx hm
   have i1:(0:Int)≤((i:Int)+(j:Int)) / 2:=by omega
   have i2:((i:Int)+(j:Int)) / 2 < (xs.length:Int):=by omega
   have i3:((i:Int)+(j:Int)) / 2 < (j:Int):=by omega
   by_cases hm:(i+j) / 2 < P
   ·have hc0:c < 0:=HLT.out hm
    go_wp2_with fail
    go_region_held3 (Two5 b (off+(((i:Int)+(j:Int)) / 2).toNat * 5) w.heap.size (.int .u8 yk) (.bool yb) (.int .i64 yn) (.string ys) (.int .u64 yu) (.int .u8 xk) (.bool xb) (.int .i64 xn) (.string xs') (.int .u64 xu)) (first
     |(with_reducible assumption)
     |(with_reducible exact two5_fr H5.out (Fr.refl _ _).drew)
     |(with_reducible exact two5_fr (two5_fr H5.out (Fr.refl _ _).drew) hf1)
     | fail) (first
     |(go_simp;go_at_call 209;refine(HCALL.out _).mono ?_;rintro e w1 ⟨rfl,hf1⟩)
     | fail)
    rename_i Kx hKx hS
    refine hKx _ _ ?_
    clear hS
    go_wp2
    go_roundw
    case rel=>exact⟨(i+j) / 2+1,j,by omega,hPj,hjn,by go_num,rfl,HFR.out.then0 ((Fr.refl N0 wr).drew.then0 hf1)⟩
    case measure=>simp [intOf];omega
   ·have hc0:¬ c < 0:=HGE.out (by omega)
    go_wp2_with fail
    go_region_held3 (Two5 b (off+(((i:Int)+(j:Int)) / 2).toNat * 5) w.heap.size (.int .u8 yk) (.bool yb) (.int .i64 yn) (.string ys) (.int .u64 yu) (.int .u8 xk) (.bool xb) (.int .i64 xn) (.string xs') (.int .u64 xu)) (first
     |(with_reducible assumption)
     |(with_reducible exact two5_fr H5.out (Fr.refl _ _).drew)
     |(with_reducible exact two5_fr (two5_fr H5.out (Fr.refl _ _).drew) hf1)
     | fail) (first
     |(go_simp;go_at_call 209;refine(HCALL.out _).mono ?_;rintro e w1 ⟨rfl,hf1⟩)
     | fail)
    rename_i Kx hKx hS
    refine hKx _ _ ?_
    clear hS
    go_wp2
    go_roundw
    case rel=>exact⟨i,(i+j) / 2,hiP,by omega,by omega,rfl,by go_num,HFR.out.then0 ((Fr.refl N0 wr).drew.then0 hf1)⟩
    case measure=>simp [intOf];omega
  ·obtain rfl:i=P:=by omega
   obtain rfl:j=i:=by omega
   have HFR:=hhd hfr
   clear hfr hbx
   by_cases hend:j < xs.length
   ·obtain rfl:=h3 (by omega)
    have e0:=hfw.cell (fun h=>h) (HC.out _ hend 0 (by decide))
    have e1:=hfw.cell (fun h=>h) (HC.out _ hend 1 (by decide))
    have e2:=hfw.cell (fun h=>h) (HC.out _ hend 2 (by decide))
    have e3:=hfw.cell (fun h=>h) (HC.out _ hend 3 (by decide))
    have e4:=hfw.cell (fun h=>h) (HC.out _ hend 4 (by decide))
    have hcall:=fun W=>HCC.out _ hend W
    have hR:=HT1.out hend
    simp only [List.getElem?_cons_zero,List.getElem?_cons_succ,Nat.add_zero] at e0 e1 e2 e3 e4
    obtain⟨c,hc⟩:∃ c,(vCmpR xs[j] ⟨xk,xb,xn,xs',xu⟩).1=c:=⟨_,rfl⟩
    rw[hc] at hcall hR
    clear hc
    obtain⟨y,hy⟩:∃ y,xs[j]=y:=⟨_,rfl⟩
    rw[hy] at e0 e1 e2 e3 e4 hcall
    obtain⟨yk,yb,yn,ys,yu⟩:=y
    simp only at e0 e1 e2 e3 e4 hcall
    have HCALL:=hhd hcall;have HRR:=hhd hR
    have H5:Hid (Two5 b (off+j * 5) w.heap.size (.int .u8 yk) (.bool yb) (.int .i64 yn) (.string ys) (.int .u64 yu) (.int .u8 xk) (.bool xb) (.int .i64 xn) (.string xs') (.int .u64 xu) _):=hhd ⟨⟨e0,e1,e2,e3,e4⟩,b0,b1,b2,b3,b4⟩
    clear b0 b1 b2 b3 b4 e0 e1 e2 e3 e4
    clear hy hcall hR hfw
    have hki:(j:Int) < (xs.length:Int):=by omega
    go_wp2_with fail
    go_region_held3 (Two5 b (off+j * 5) w.heap.size (.int .u8 yk) (.bool yb) (.int .i64 yn) (.string ys) (.int .u64 yu) (.int .u8 xk) (.bool xb) (.int .i64 xn) (.string xs') (.int .u64 xu)) (first
     |(with_reducible assumption)
     |(with_reducible exact two5_fr H5.out (Fr.refl _ _).drew)
     |(with_reducible exact two5_fr (two5_fr H5.out (Fr.refl _ _).drew) hf1)
     | fail) (first
     |(go_simp;go_at_call 209;refine(HCALL.out _).mono ?_;rintro e w1 ⟨rfl,hf1⟩)
     | fail)
    rename_i Kx hKx hS
    refine hKx _ _ ?_
    clear hS
    go_wp2
    go_ret2
    exact⟨by rw[HRR.out];rfl,((Fr.refl N0 w).alloc _).then0 (HFR.out.then0 ((Fr.refl N0 _).drew.then0 hf1))⟩
   ·have hR:=HT2.out hend
    have HRR:=hhd hR
    have hki:¬(j:Int) < (xs.length:Int):=by omega
    clear hR hfw b0 b1 b2 b3 b4
    clear HCC HC HN HLO HHI HT1 HT2
    go_wp2_with fail
    go_quiet (fail)
    rename_i Kx hKx
    refine hKx _ _ ?_
    go_wp2
    go_ret2
    exact⟨by rw[HRR.out];rfl,(((Fr.refl N0 w).alloc _).then0 HFR.out).drewN _⟩
end
section
def RisesV(l:List Val):Prop:=l.Pairwise fun a b=>vcmp a b < 0
def posV(x:Val)(l:List Val):Nat:=(l.takeWhile fun y=>decide (vcmp y x < 0)).length
theorem posV_le(x:Val)(l:List Val):posV x l≤l.length:=by
 unfold posV;exact(List.takeWhile_sublist _).length_le
theorem posV_lt{x:Val}:∀ {l:List Val} (k:Nat) (h:k < l.length),k < posV x l→vcmp l[k] x < 0
 | y :: l,k,h,hk=>by
  unfold posV at hk
  by_cases hy:vcmp y x < 0
  ·simp only [List.takeWhile_cons,hy,decide_true,if_true,List.length_cons] at hk
   cases k with
   | zero=>exact hy
   | succ k=>exact posV_lt (l:=l) k (by simpa using h) (by unfold posV;omega)
  ·simp [List.takeWhile_cons,hy] at hk
theorem posV_ge{x:Val}:∀ {l:List Val} (hr:RisesV l) (k:Nat) (h:k < l.length),posV x l≤k→0≤vcmp l[k] x
 | y :: l,hr,k,h,hk=>by
  obtain⟨h1,h2⟩:=List.pairwise_cons.1 hr
  unfold posV at hk
  by_cases hy:vcmp y x < 0
  ·simp only [List.takeWhile_cons,hy,decide_true,if_true,List.length_cons] at hk
   cases k with
   | zero=>omega
   | succ k=>exact posV_ge (l:=l) h2 k (by simpa using h) (by unfold posV;omega)
  ·cases k with
   | zero=>show 0≤vcmp y x;omega
   | succ k=>
    have hkl:k < l.length:=by simpa using h
    have hm:vcmp y l[k] < 0:=h1 _ (List.getElem_mem _)
    show 0≤vcmp l[k] x
    by_cases hc:vcmp l[k] x < 0
    ·exact absurd (vcmp_trans hm hc) hy
    ·omega
theorem risesV_ins{x:Val}:∀ {l:List Val},RisesV l→x ∉ l→RisesV (l.take (posV x l) ++ x :: l.drop (posV x l))
 | [],_,_=>by simp [posV,RisesV]
 | y :: l,h,hn=>by
  obtain⟨h1,h2⟩:=List.pairwise_cons.1 h
  have hne:y≠x:=fun e=>hn (by simp [e])
  by_cases hy:vcmp y x < 0
  ·have e:posV x (y :: l)=posV x l+1:=by simp [posV,List.takeWhile_cons,hy]
   rw[e]
   show RisesV (y ::(l.take (posV x l) ++ x :: l.drop (posV x l)))
   refine List.pairwise_cons.2 ⟨fun z hz=>?_,risesV_ins h2 fun hm=>hn (by simp [hm])⟩
   rcases List.mem_append.1 hz with hz | hz
   ·exact h1 z (List.mem_of_mem_take hz)
   ·rcases List.mem_cons.1 hz with rfl | hz
    ·exact hy
    ·exact h1 z (List.mem_of_mem_drop hz)
  ·have e:posV x (y :: l)=0:=by simp [posV,List.takeWhile_cons,hy]
   rw[e]
   have h0:vcmp y x≠0:=fun e=>hne (vcmp_zero.1 e)
   have hxy:vcmp x y < 0:=by rw[vcmp_swap];omega
   refine List.pairwise_cons.2 ⟨fun z hz=>?_,h⟩
   rcases List.mem_cons.1 hz with rfl | hz
   ·exact hxy
   ·exact vcmp_trans hxy (h1 z hz)
theorem risesV_del{l:List Val}(h:RisesV l)(k:Nat):RisesV (l.eraseIdx k):=List.Pairwise.sublist (List.eraseIdx_sublist l k) h
theorem there_iff{x:Val}{l:List Val}(h:RisesV l):x ∈ l↔∃ hk:posV x l < l.length,l[posV x l]=x:=by
 constructor
 ·intro hx
  obtain⟨i,hi,he⟩:=List.getElem_of_mem hx
  have h0:vcmp l[i] x=0:=by rw[he];exact vcmp_zero.2 rfl
  have h1:posV x l≤i:=by
   by_cases hlt:i < posV x l
   ·have:=posV_lt i hi hlt;omega
   ·omega
  have h2:posV x l < l.length:=by omega
  refine⟨h2,?_⟩
  by_cases e:posV x l=i
  ·simp only [e];exact he
  ·have h3:=List.pairwise_iff_getElem.1 h (posV x l) i h2 hi (by omega)
   rw[he] at h3
   have:=posV_ge h (posV x l) h2 (Nat.le_refl _)
   omega
 ·rintro⟨hk,he⟩
  rw[← he];exact List.getElem_mem hk
theorem thereV_iff{x:Val}{l:List Val}(h:RisesV l)(hm:∀ y ∈ l,valMay y=true)(hx:valMay x=true):thereV l x (posV x l)=true↔x ∈ l:=by
 rw[there_iff h]
 by_cases hk:posV x l < l.length
 ·rw[thereV_at hk]
  unfold vCmpR
  rw[if_pos ⟨hm _ (List.getElem_mem hk),hx⟩]
  simp only [beq_iff_eq,vcmp_zero]
  exact⟨fun e=>⟨hk,e⟩,fun e=>e.2⟩
 ·rw[thereV_end hk]
  simp [hk]
end
section
open Go.RowKit Go.Shelf Go.Maps
open Classical in
noncomputable def wrV(l:List Val)(x:Wr)(list:Bool):List Val:=
 if x.del=true then (if x.val ∈ l then l.eraseIdx (posV x.val l) else l)
 else if list=false then [x.val]
 else if x.val ∈ l then l else l.take (posV x.val l) ++ x.val :: l.drop (posV x.val l)
open Classical in
noncomputable def updV{α:Type}(H:Int→List α)(u:Int)(l:List α):Int→List α:=fun y=>if y=u then l else H y
theorem updV_same{α:Type}(H:Int→List α)(u:Int)(l:List α):updV H u l u=l:=if_pos rfl
theorem updV_other{α:Type}{H:Int→List α}{u y:Int}{l:List α}(h:y≠u):updV H u l y=H y:=if_neg h
noncomputable def hWrite(list:Bool)(H:Int→List Val)(x:Wr):Int→List Val:=updV H x.uid (wrV (H x.uid) x list)
theorem wf_nn{a:Int}(h:(Lit.int .u64 a).wf=true):0≤a∧a < 18446744073709551616:=by
 simp [Lit.wf,IntKind.min,IntKind.max,IntKind.bits,IntKind.signed] at h
 omega
structure VOk(l:List Val):Prop where
 rises:RisesV l
 may:∀ y ∈ l,valMay y=true∧(Lit.int .u64 y.u).wf=true
structure WrOk(x:Wr):Prop where
 uid:(Lit.int .u64 x.uid).wf=true
 may:valMay x.val=true
 u:(Lit.int .u64 x.val.u).wf=true
theorem VOk.nil:VOk []:=⟨List.Pairwise.nil,by simp⟩
theorem wrV_mem{l:List Val}{x:Wr}{list:Bool}{y:Val}(h:y ∈ wrV l x list):y=x.val∨y ∈ l:=by
 unfold wrV at h
 split at h
 ·split at h
  ·exact .inr (List.mem_of_mem_eraseIdx h)
  ·exact .inr h
 ·split at h
  ·simp at h;exact .inl h
  ·split at h
   ·exact .inr h
   ·rcases List.mem_append.1 h with h | h
    ·exact .inr (List.mem_of_mem_take h)
    ·rcases List.mem_cons.1 h with h | h
     ·exact .inl h
     ·exact .inr (List.mem_of_mem_drop h)
theorem wrV_ok{l:List Val}{x:Wr}(list:Bool)(h:VOk l)(hx:WrOk x):VOk (wrV l x list) where
 rises:=by
  unfold wrV
  split
  ·split
   ·exact risesV_del h.rises _
   ·exact h.rises
  ·split
   ·exact List.pairwise_singleton _ _
   ·split
    ·exact h.rises
    ·rename_i hn;exact risesV_ins h.rises hn
 may:=fun y hy=>by
  rcases wrV_mem hy with rfl | hy
  ·exact⟨hx.may,hx.u⟩
  ·exact h.may y hy
theorem wrV_len(l:List Val)(x:Wr)(list:Bool):(wrV l x list).length≤l.length+1:=by
 unfold wrV
 split
 ·split
  ·rw[List.length_eraseIdx];split <;> omega
  ·omega
 ·split
  ·simp
  ·split
   ·omega
   ·simp;have:=posV_le x.val l;omega
structure HOk(H:Int→List Val)(n:Nat):Prop where
 ok:∀ u,VOk (H u)
 len:∀ u,(H u).length≤n
 key:∀ u,H u≠[]→(Lit.int .u64 u).wf=true
theorem HOk.nil:HOk (fun _=>[]) 0:=⟨fun _=>VOk.nil,by simp,by simp⟩
theorem HOk.write{H:Int→List Val}{n:Nat}{x:Wr}(list:Bool)(h:HOk H n)(hx:WrOk x):HOk (hWrite list H x) (n+1) where
 ok:=fun u=>by
  unfold hWrite
  by_cases e:u=x.uid
  ·subst e;rw[updV_same];exact wrV_ok list (h.ok _) hx
  ·rw[updV_other e];exact h.ok u
 len:=fun u=>by
  unfold hWrite
  by_cases e:u=x.uid
  ·subst e;rw[updV_same];have:=wrV_len (H x.uid) x list;have:=h.len x.uid;omega
  ·rw[updV_other e];have:=h.len u;omega
 key:=fun u hu=>by
  unfold hWrite at hu
  by_cases e:u=x.uid
  ·subst e;exact hx.uid
  ·rw[updV_other e] at hu;exact h.key u hu
def HRows{α:Type}(enc:α→List Value)(k:Nat)(W:World)(lo b:Nat)(H:Int→List α)(F:Lit→Option Value):Prop:=
 (∀ kl v,F kl=some v→∃ u,kl=litU u∧H u≠[]∧∃ g,lo≤g∧g≠b∧g < W.heap.size∧RowsK enc k W g v (H u))∧∀ u,H u≠[]→(F (litU u)).isSome=true
section
variable {α:Type} {enc:α→List Value} {k:Nat}
theorem litU_inj{a b:Int}(h:litU a=litU b):a=b:=by injection h
theorem HRows.fr(hk:∀ x,(enc x).length=k){W W':World}{T:Nat→Prop}{lo b:Nat}{H:Int→List α}{F:Lit→Option Value}(h:HRows enc k W lo b H F)(hf:Fr T W W')(hT:∀ j,T j→j < lo∨j=b∨W.heap.size≤j):HRows enc k W' lo b H F:=by
 refine⟨fun kl v hv=>?_,h.2⟩
 obtain⟨u,e,h0,g,h1,h2,h3,h4⟩:=h.1 kl v hv
 refine⟨u,e,h0,g,h1,h2,Nat.lt_of_lt_of_le h3 hf.size,rowsK_frT (enc:=enc) (n:=k) hk h4 hf fun _ hg=>?_⟩
 rcases hT g hg with h | h | h <;> omega
theorem HRows.absent{W:World}{lo b:Nat}{H:Int→List α}{F:Lit→Option Value}(h:HRows enc k W lo b H F){u:Int}(hu:H u = []):F (litU u)=none:=by
 cases hF:F (litU u) with
 | none=>rfl
 | some v=>
  obtain⟨u',e,h0,-⟩:=h.1 _ v hF
  obtain rfl:=litU_inj e
  exact absurd hu h0
theorem HRows.at{W:World}{lo b:Nat}{H:Int→List α}{F:Lit→Option Value}(h:HRows enc k W lo b H F)(u:Int):∃ g,RowsK enc k W g ((F (litU u)).getD (.slice none 0 0)) (H u)∧(H u≠[]→lo≤g∧g≠b∧g < W.heap.size):=by
 cases hF:F (litU u) with
 | none=>
  have h0:H u = []:=by
   by_cases h0:H u = []
   ·exact h0
   ·have:=h.2 u h0;rw[hF] at this;cases this
  rw[h0]
  exact⟨0,RowsK.nil _ _ _ _,fun h=>absurd rfl h⟩
 | some v=>
  obtain⟨u',e,h0,g,h1,h2,h3,h4⟩:=h.1 _ v hF
  obtain rfl:=litU_inj e
  exact⟨g,h4,fun _=>⟨h1,h2,h3⟩⟩
theorem HRows.put{W:World}{lo b g:Nat}{H:Int→List α}{F:Lit→Option Value}(h:HRows enc k W lo b H F)(u:Int){l:List α}(hl:l≠[]){v:Value}(h1:lo≤g)(h2:g≠b)(h3:g < W.heap.size)(h4:RowsK enc k W g v l) :
  HRows enc k W lo b (updV H u l) (putF F (litU u) (some v)):=by
 refine⟨fun kl v' hv=>?_,fun y hy=>?_⟩
 ·by_cases e:kl=litU u
  ·subst e
   rw[putF_same] at hv
   obtain rfl:=Option.some.inj hv
   exact⟨u,rfl,by rw[updV_same];exact hl,g,h1,h2,h3,by rw[updV_same];exact h4⟩
  ·rw[putF_other e] at hv
   obtain⟨y,e',h0,g',g1,g2,g3,g4⟩:=h.1 kl v' hv
   have hne:y≠u:=fun h=>e (by rw[e',h])
   exact⟨y,e',by rw[updV_other hne];exact h0,g',g1,g2,g3,by rw[updV_other hne];exact g4⟩
 ·by_cases e:y=u
  ·subst e;rw[putF_same];rfl
  ·rw[putF_other (fun h=>e (litU_inj h))]
   rw[updV_other e] at hy
   exact h.2 y hy
theorem HRows.del{W:World}{lo b:Nat}{H:Int→List α}{F:Lit→Option Value}(h:HRows enc k W lo b H F)(u:Int):HRows enc k W lo b (updV H u []) (putF F (litU u) none):=by
 refine⟨fun kl v' hv=>?_,fun y hy=>?_⟩
 ·by_cases e:kl=litU u
  ·subst e;rw[putF_same] at hv;cases hv
  ·rw[putF_other e] at hv
   obtain⟨y,e',h0,g',g1,g2,g3,g4⟩:=h.1 kl v' hv
   have hne:y≠u:=fun h=>e (by rw[e',h])
   exact⟨y,e',by rw[updV_other hne];exact h0,g',g1,g2,g3,by rw[updV_other hne];exact g4⟩
 ·by_cases e:y=u
  ·subst e;rw[updV_same] at hy;exact absurd rfl hy
  ·rw[putF_other (fun h=>e (litU_inj h))]
   rw[updV_other e] at hy
   exact h.2 y hy
end
def HaveM(W:World)(lo b n:Nat)(H:Int→List Val):Prop:=lo≤b∧∃ F,MapF Tryz.prog 33 W b n F∧HRows Val.enc 5 W lo b H F
theorem HaveM.fr{W W':World}{T:Nat→Prop}{lo b n:Nat}{H:Int→List Val}(h:HaveM W lo b n H)(hf:Fr T W W')(hT:∀ k,T k→k < lo∨W.heap.size≤k):HaveM W' lo b n H:=by
 obtain⟨hb,F,h1,h2⟩:=h
 have hlt:=h1.lt
 exact⟨hb,F,h1.fr hf fun hk=>by rcases hT b hk with h | h <;> omega,h2.fr val_len hf fun k hk=>(hT k hk).elim .inl fun h=>.inr (.inr h)⟩
theorem HaveM.made(W:World):HaveM (W.alloc (.map #[] 0)) W.heap.size W.heap.size 0 fun _=>[]:=
 ⟨Nat.le_refl _,_,MapF.made W Tryz.prog 33,⟨fun kl v h=>(by cases h),fun u h=>absurd rfl h⟩⟩
end
section
open Go.RowKit Go.Shelf Go.Lib
attribute [local go_sem] Oper.semAt_some
theorem insV_info:(Tryz.prog.info? 57).map (fun i=>(i.zero,i.size,i.bytes))=some (some (.agg #[.int .u8 0,.bool false,.int .i64 0,.string ⟨#[]⟩,.int .u64 0]),5,40):=by kernel_rfl
theorem insV_len(x:Val):(Val.enc x).length=5:=rfl
theorem insV_one(x:Val):∀ u ∈ x.enc,u.oneCell'=true:=by intro u hu;simp [Val.enc] at hu;rcases hu with h | h | h | h | h <;> subst h <;> rfl
theorem insV_shift(w:World)(base g n cap i:Nat)(xs:List (Val))(x:Val)(vb:Nat)(h:w.ownsRow base 57 5 (.slice (some ⟨g,0,none⟩) n cap) n (xs.flatMap (Val.enc)))(hl:xs.length=n)(hi:i < n)(hroom:n+1≤cap)(hvb:w.heap[vb]?=some (.cells (Val.enc x).toArray 57 (0,0)))(hne:vb≠g) :
  Calls Tryz.prog 211 #[.slice (some ⟨g,0,none⟩) n cap,.int .i64 i,.slice (some ⟨vb,0,none⟩) 1 1] w fun e w'=>
   e = .returned (.slice (some ⟨g,0,none⟩) (n+1) cap)∧w'.ownsRow base 57 5 (.slice (some ⟨g,0,none⟩) (n+1) cap) (n+1) ((xs.take i ++ x :: xs.drop i).flatMap (Val.enc))∧Fr (fun j=>j=g) w w':=by
 obtain⟨cur,hbase,hg,hcm,hcs,htk⟩:∃ cur,base≤g∧w.heap[g]?=some (.cells cur 57 (0,0))∧cap≤maxLen∧cur.size=cap * 5∧cur.toList.take (n * 5)=xs.flatMap (Val.enc):=by
  rcases h.2 with⟨h',_⟩ | ⟨g',cap',cur,h',hb,hg,hnc,hcm,hcs,htake⟩
  ·simp at h'
  ·simp only [Value.slice.injEq,Option.some.injEq,Addr.mk.injEq,and_true,true_and] at h'
   obtain⟨rfl,rfl⟩:=h'
   exact⟨cur,hb,hg,hcm,hcs,htake⟩
 have hsz:(Tryz.prog.info? 57).map (·.size)=some 5:=by
  obtain⟨i0,hi0,h0,h1,h2⟩:=info_parts insV_info
  rw[hi0];simp [h1]
 have hc63:cap≤9223372036854775807:=by unfold maxLen at hcm;omega
 have hrow:=ins_row (enc:=Val.enc) (k:=5) insV_len xs x i (by omega) cur.toList (by rw[hl];exact htk) (by rw[hl];simp only [Array.length_toList];omega)
 obtain⟨cs,hcse⟩:∃ cs,(xs.drop i).flatMap (Val.enc)=cs:=⟨_,rfl⟩
 have hcsl:cs.length=(n - i) * 5:=by rw[← hcse,flat_len insV_len,List.length_drop,hl]
 have hcs1:∀ u ∈ cs,u.oneCell'=true:=by rw[← hcse];exact oneCells_flat insV_one _
 have hsrc1:∀ j v,cs[j]?=some v→w.cell? ((⟨g,i * 5,none⟩:Addr).add j)=some v:=fun j v hj=>by
  have e1:(xs.take i).flatMap (Val.enc) ++ cs=cur.toList.take (n * 5):=by rw[htk,← hcse,← List.flatMap_append,List.take_append_drop]
  have e2:((xs.take i).flatMap (Val.enc)).length=i * 5:=by rw[flat_len insV_len,List.length_take];congr 1;omega
  have hjl:j < cs.length:=(List.getElem?_eq_some_iff.1 hj).1
  have e3:cur.toList[i * 5+j]?=some v:=by
   have:=congrArg (fun l=>l[i * 5+j]?) e1
   rw[List.getElem?_append_right (by omega),e2,Nat.add_sub_cancel_left,hj,List.getElem?_take,if_pos (by omega)] at this
   exact this.symm
  rw[show((⟨g,i * 5,none⟩:Addr).add j)=⟨g,i * 5+j,none⟩ from addr_add0,(box_cells hg).1]
  simpa using e3
 obtain⟨cur1,hcur1⟩:∃ c,cur.toList.take ((i+1) * 5) ++ cs ++ cur.toList.drop ((i+1) * 5+cs.length)=c:=⟨_,rfl⟩
 replace hrow:=hrow cur1 (by rw[hcse];exact hcur1)
 have hc1l:cur1.length=cap * 5:=by
  rw[← hcur1,List.length_append,List.length_append,List.length_take,List.length_drop,Array.length_toList];omega
 have hcp1:∀ (W:World),W.heap=w.heap→∀ ty dc sc,(Builtin.copy_ #[91,91] ty #[.slice (some ⟨g,(i+1) * 5,none⟩) (n+1 - (i+1)) dc,.slice (some ⟨g,i * 5,none⟩) (n+1 - i) sc]).run Tryz.prog W =   .ok (goInt ((n - i:Nat):Int)) (W.setRow g cur1.toArray):=fun W hW ty dc sc=>by
  rw[← hcur1]
  exact run_copy_rowK W 91 91 ty 57 5 g ((i+1) * 5) (n+1 - (i+1)) dc ⟨g,i * 5,none⟩ (n+1 - i) sc (n - i) cur 57 cs Tryz.underlying91 hsz (by rw[hW];exact hg) (by show n - i=min _ _;omega) hcsl (fun j v hj=>by rw[← hsrc1 j v hj];unfold World.cell?;rw[hW]) (by omega) hcs1
 have hcp2:∀ (W:World),W.heap[g]?=some (.cells cur1.toArray 57 (0,0))→W.heap[vb]?=w.heap[vb]?→∀ ty dc,(Builtin.copy_ #[91,91] ty #[.slice (some ⟨g,i * 5,none⟩) (n+1 - i) dc,.slice (some ⟨vb,0,none⟩) 1 1]).run Tryz.prog W = .ok (goInt 1) (W.setRow g (cur1.take (i * 5) ++(Val.enc x) ++ cur1.drop (i * 5+(Val.enc x).length)).toArray):=fun W h1 h2 ty dc=>by
  have:=run_copy_rowK W 91 91 ty 57 5 g (i * 5) (n+1 - i) dc ⟨vb,0,none⟩ 1 1 1 cur1.toArray 57 (Val.enc x) Tryz.underlying91 hsz h1 (by show 1=min _ _;omega) (by rw[insV_len]) (fun j v hj=>by
   rw[show((⟨vb,0,none⟩:Addr).add j)=⟨vb,0+j,none⟩ from addr_add0,(box_cells (h2.trans hvb)).1]
   simpa using hj) (by rw[insV_len,List.size_toArray,hc1l];omega) (insV_one x)
  simpa using this
 obtain⟨mvb,nvb,lvb⟩:=box_cells hvb
 have hshA:w.shape? vb=some (57,5):=by unfold World.shape?;rw[hvb];simp [insV_len]
 have hshB:w.shape? g=some (57,cap * 5):=by unfold World.shape?;rw[hg];simp [hcs]
 have hov:∀ lb cb,(callFunc 246 #[.slice (some ⟨vb,0,none⟩) 1 1,.slice (some ⟨g,(i+1) * 5,none⟩) lb cb]).run Tryz.prog w = .ok (.value (.bool false)) w:=fun lb cb=>by
  rw[run_callFunc_extern Tryz.func246 (by kernel_rfl) (by kernel_rfl) (by kernel_rfl) (e:=Extern.SlicesOverlaps.overlaps #[91,91] #[4]) (by kernel_rfl),
   Lib.run_overlaps_apart w 91 4 57 Tryz.underlying91 5 (fun w=>by kernel_rfl) ⟨vb,0,none⟩ ⟨g,(i+1) * 5,none⟩ 1 1 lb cb hne 57 57 5 (cap * 5) hshA hshB (by omega) (nvb 0) (nvb 5)]
  rfl
 skip
 have hz2:¬((i:Int)=(n:Int)):=by omega
 have hw1:IntKind.i64.wrap ((i:Int)+1)=(i:Int)+1:=by rw[IntKind.wrap_i64];omega
 have hb1:(0:Int)≤(i:Int)+1:=by omega
 have hin:i≤n:=by omega
 have htn:((i:Int)+1).toNat=i+1:=by omega
 have hb2:¬(cap=i+1):=by omega
 have hb3:(i:Int)≤(n:Int)+1:=by omega
 have hb4:¬(cap=i):=by omega
 have hc1:=hcp1 w.drew rfl 3 (cap - (i+1)) (cap - i)
 have hW1:(w.drew.setRow g cur1.toArray).heap[g]?=some (.cells cur1.toArray 57 (0,0)):=setRow_heap w.drew g cur cur1.toArray 57 (0,0) hg
 have hW2:(w.drew.setRow g cur1.toArray).heap[vb]?=w.heap[vb]?:=setRow_other w.drew g vb _ hne
 have hc2:=hcp2 (w.drew.setRow g cur1.toArray) hW1 hW2 3 (cap - i)
 obtain⟨cur2,hcur2⟩:∃ c,(cur1.take (i * 5) ++(Val.enc x) ++ cur1.drop (i * 5+(Val.enc x).length))=c:=⟨_,rfl⟩
 rw[hcur2] at hc2 hrow
 simp only [Nat.add_sub_add_right] at hc1 hc2
 have HW1:=hhd hW1;have HROW:=hhd hrow;have HG:=hhd hg;have HCL:=hhd hc1l;have HC2:=hhd hcur2;have HX:=hhd hl
 clear hcp1 hcp2 hW1 hW2 hcur1 hcur2 hrow hsrc1 hcs1 hcsl hcse htk hcs hg hc1l hl h hvb mvb nvb hshA hshB hcm
 go_enter Tryz.func211,Tryz.ntmps211
 go_wp2_with (simp only [hov])
 go_region_law (fail)
 go_wp2
 go_ret
 have hl:=HX.out
 refine⟨rfl,⟨?_,.inr ⟨g,cap,cur2.toArray,rfl,hbase,setRow_heap _ g _ cur2.toArray 57 (0,0) HW1.out,hroom,by unfold maxLen;omega,?_,?_⟩⟩,((Fr.refl (fun j=>j=g) w).drew.trans (fr_setRow _ g _) (fun k hk=>.inl hk)).trans (fr_setRow _ g _) (fun k hk=>.inl hk)⟩
 ·rw[flat_len insV_len,List.length_append,List.length_cons,List.length_take,List.length_drop];congr 1;omega
 ·have:=HCL.out
  rw[List.size_toArray,← HC2.out,List.length_append,List.length_append,List.length_take,List.length_drop,insV_len];omega
 ·have:=HROW.out
  rw[hl] at this
  exact this
theorem insV_end(w:World)(base:Nat)(v:Value)(n:Nat)(xs:List (Val))(x:Val)(vb:Nat)(hbase:base≤w.heap.size)(h:w.ownsRow base 57 5 v n (xs.flatMap (Val.enc)))(hn:n≤10000000000)(hvb:w.heap[vb]?=some (.cells (Val.enc x).toArray 57 (0,0))) :
  Calls Tryz.prog 211 #[v,.int .i64 n,.slice (some ⟨vb,0,none⟩) 1 1] w fun e w'=>∃ v',e = .returned v'∧w'.ownsRow base 57 5 v' (n+1) ((xs ++ [x]).flatMap (Val.enc))∧Fr (fun j=>v.ownBlock=some j) w w'∧∀ j,v'.ownBlock=some j→v.ownBlock=some j∨w.heap.size≤j:=by
 obtain⟨i0,hi,hz0,hz1,hz2⟩:=info_parts insV_info
 have hnews:∀ j u,(Val.enc x)[j]?=some u→w.cell? ((⟨vb,0,none⟩:Addr).add j)=some u:=fun j u hj=>by
  rw[addr_add0,(box_cells hvb).1]
  simpa using hj
 have hone:=insV_one x
 have hfl:(xs ++ [x]).flatMap (Val.enc)=xs.flatMap (Val.enc) ++(Val.enc x):=by simp
 rw[hfl]
 obtain⟨nws,hnws⟩:∃ l,(Val.enc x)=l:=⟨_,rfl⟩
 have hnl:nws.length=1 * 5:=by rw[← hnws];rfl
 rw[hnws] at hnews hone ⊢
 obtain⟨row,hrow⟩:∃ l,xs.flatMap (Val.enc)=l:=⟨_,rfl⟩
 rw[hrow] at h ⊢
 have HR:=hhd h;have HN:=hhd hnews
 have hv:(v = .slice none 0 0∧n=0)∨∃ g cap,v = .slice (some ⟨g,0,none⟩) n cap∧n≤cap∧cap≤9223372036854775807:=by
  rcases h.2 with h' | ⟨g,cap,cur,h',hb,hg,hnc,hcm,hcs,htake⟩
  ·exact .inl h'
  ·exact .inr ⟨g,cap,h',hnc,by unfold maxLen at hcm;omega⟩
 clear h hnews hvb hnws hrow hfl
 rcases hv with⟨rfl,rfl⟩ | ⟨g,cap,rfl,hnc,hc63⟩
 ·go_enter Tryz.func211,Tryz.ntmps211
  go_wp2_with (at_builtin;go_loud (refine wpList_append_lies _ rfl _ _ 91 rfl base 57 i0 (.agg #[.int .u8 0,.bool false,.int .i64 0,.string ⟨#[]⟩,.int .u64 0]) 5 40 Tryz.underlying91 hi hz0 hz1 hz2 rfl (by decide) (.slice none 0 0) 0 _ rfl HR.out ⟨vb,0,none⟩ 1 1 nws rfl hnl HN.out hone (by omega) (by unfold maxLen;omega) (by omega) hbase w.heap.size rfl ?_);intro g1 cap1 w1 hown1 hgrow1 hfresh1 hlt1)
  go_ret
  exact⟨.slice (some ⟨g1,0,none⟩) (0+1) cap1,rfl,hown1,(Fr.refl _ _).grown hgrow1 (fun k e=>by simp [Value.ownBlock] at e),fun j hj=>.inr (by
   simp only [Value.ownBlock,Option.some.injEq] at hj
   subst hj
   rcases hfresh1 with h | h
   ·simp [Value.ownBlock] at h
   ·omega)⟩
 ·by_cases hcn:cap=n
  all_goals
   go_enter Tryz.func211,Tryz.ntmps211
   go_wp2_with (at_builtin;go_loud (refine wpList_append_lies _ rfl _ _ 91 rfl base 57 i0 (.agg #[.int .u8 0,.bool false,.int .i64 0,.string ⟨#[]⟩,.int .u64 0]) 5 40 Tryz.underlying91 hi hz0 hz1 hz2 rfl (by decide) (.slice (some ⟨g,0,none⟩) n cap) n _ rfl HR.out ⟨vb,0,none⟩ 1 1 nws rfl hnl HN.out hone (by omega) (by unfold maxLen;omega) (by omega) hbase w.heap.size rfl ?_);intro g1 cap1 w1 hown1 hgrow1 hfresh1 hlt1)
   go_ret
   exact⟨.slice (some ⟨g1,0,none⟩) (n+1) cap1,rfl,hown1,(Fr.refl _ _).grown hgrow1 (fun k e=>.inl e),fun j hj=>by
    simp only [Value.ownBlock,Option.some.injEq] at hj ⊢
    subst hj
    rcases hfresh1 with h | h
    ·simp only [Value.ownBlock,Option.some.injEq] at h;exact .inl h
    ·exact .inr (by omega)⟩
theorem insV_grow(w:World)(base g n cap i:Nat)(xs:List (Val))(x:Val)(vb:Nat)(hbase:base≤w.heap.size)(h:w.ownsRow base 57 5 (.slice (some ⟨g,0,none⟩) n cap) n (xs.flatMap (Val.enc)))(hl:xs.length=n)(hi:i < n)(hn:n≤10000000000)(hroom:¬ n+1≤cap)(hvb:w.heap[vb]?=some (.cells (Val.enc x).toArray 57 (0,0))) :
  Calls Tryz.prog 211 #[.slice (some ⟨g,0,none⟩) n cap,.int .i64 i,.slice (some ⟨vb,0,none⟩) 1 1] w fun e w'=>∃ G,
   e = .returned (.slice (some ⟨w.heap.size,0,none⟩) (n+1) G)∧w'.ownsRow base 57 5 (.slice (some ⟨w.heap.size,0,none⟩) (n+1) G) (n+1) ((xs.take i ++ x :: xs.drop i).flatMap (Val.enc))∧Fr N0 w w':=by
 obtain⟨i0,hi0,hz0,hz1,hz2⟩:=info_parts insV_info
 obtain⟨cur,hg,hnc,hcm,hcs,htk⟩:∃ cur,w.heap[g]?=some (.cells cur 57 (0,0))∧n≤cap∧cap≤maxLen∧cur.size=cap * 5∧cur.toList.take (n * 5)=xs.flatMap (Val.enc):=by
  rcases h.2 with⟨h',_⟩ | ⟨g',cap',cur,h',hb,hg,hnc,hcm,hcs,htake⟩
  ·simp at h'
  ·simp only [Value.slice.injEq,Option.some.injEq,Addr.mk.injEq,and_true,true_and] at h'
   obtain⟨rfl,rfl⟩:=h'
   exact⟨cur,hg,hnc,hcm,hcs,htake⟩
 have hsz:(Tryz.prog.info? 57).map (·.size)=some 5:=by rw[hi0];simp [hz1]
 have hc63:cap≤9223372036854775807:=by unfold maxLen at hcm;omega
 have hgl:=lt_of_block hg
 have hvl:=lt_of_block hvb
 obtain⟨os,hose⟩:∃ cs,(xs.take i).flatMap (Val.enc)=cs:=⟨_,rfl⟩
 obtain⟨cs,hcse⟩:∃ cs,(xs.drop i).flatMap (Val.enc)=cs:=⟨_,rfl⟩
 have hosl:os.length=i * 5:=by rw[← hose,flat_len insV_len,List.length_take];congr 1;omega
 have hcsl:cs.length=(n - i) * 5:=by rw[← hcse,flat_len insV_len,List.length_drop,hl]
 have hcs1:∀ u ∈ cs,u.oneCell'=true:=by rw[← hcse];exact oneCells_flat insV_one _
 have e1:os ++ cs=cur.toList.take (n * 5):=by rw[htk,← hose,← hcse,← List.flatMap_append,List.take_append_drop]
 have hsrc:∀ j v,(os ++ cs)[j]?=some v→w.cell? ⟨g,j,none⟩=some v:=fun j v hj=>by
  rw[e1,List.getElem?_take] at hj
  split at hj
  ·rw[(box_cells hg).1];simpa using hj
  ·cases hj
 have hold:(Builtin.firstCells i0.size i (.slice (some ⟨g,0,none⟩) i cap)).run Tryz.prog w.drew = .ok os.toArray w.drew:=by
  rw[hz1]
  exact run_firstCells_some w.drew 5 i ⟨g,0,none⟩ i cap os hosl (fun j v hj=>by
   rw[addr_add0,Nat.zero_add]
   exact hsrc j v (by rw[List.getElem?_append_left (List.getElem?_eq_some_iff.1 hj).1];exact hj))
 have hrz:∀ ty,(Builtin.append_ #[91,3] ty #[.slice (some ⟨g,0,none⟩) i cap,.int .i64 ((n+1 - i:Nat):Int)]).run Tryz.prog w = .ok (.slice (some ⟨w.heap.size,0,none⟩) (n+1) (grownCap w (n+1) cap 57)) (w.drew.alloc (.cells (os.toArray ++ Builtin.zeroCells (Value.cells (.agg #[.int .u8 0,.bool false,.int .i64 0,.string ⟨#[]⟩,.int .u64 0])) (n+1 - i) ++ Builtin.zeroCells (Value.cells (.agg #[.int .u8 0,.bool false,.int .i64 0,.string ⟨#[]⟩,.int .u64 0])) (grownCap w (n+1) cap 57 - (n+1))) 57)):=fun ty=>by
  have h:=Lib.run_append_grow_zeros w 91 3 ty 57 i0 (.agg #[.int .u8 0,.bool false,.int .i64 0,.string ⟨#[]⟩,.int .u64 0]) .i64 .i64 Tryz.underlying91 Tryz.underlying3 hi0 hz0 (some ⟨g,0,none⟩) i cap os hold (n+1 - i) (by omega) (by omega) (by omega) (by omega) (by rw[hz2];omega) (by
   rw[show i+(n+1 - i)=n+1 by omega]
   exact growslice_fits (by omega) (by rw[hz2];omega))
  rw[show i+(n+1 - i)=n+1 by omega] at h
  exact h
 rw[show(((n+1 - i:Nat):Int))=(n:Int)+1 - (i:Int) by omega] at hrz
 have hGn:n+1≤grownCap w (n+1) cap 57:=grownCap_ge w _ _ _
 have hGm:=grownCap_le_maxLen w (n+1) cap 57 (by unfold maxLen;omega)
 obtain⟨G,hG⟩:∃ G,G=grownCap w (n+1) cap 57:=⟨_,rfl⟩
 rw[← hG] at hrz hGn hGm
 have hG63:G≤9223372036854775807:=by unfold maxLen at hGm;omega
 obtain⟨cur0,hcur0⟩:∃ c,(os.toArray ++ Builtin.zeroCells (Value.cells (.agg #[.int .u8 0,.bool false,.int .i64 0,.string ⟨#[]⟩,.int .u64 0])) (n+1 - i) ++ Builtin.zeroCells (Value.cells (.agg #[.int .u8 0,.bool false,.int .i64 0,.string ⟨#[]⟩,.int .u64 0])) (G - (n+1)))=c:=⟨_,rfl⟩
 have hc0l:cur0.size=G * 5:=by
  have hzc:(Value.cells (.agg #[.int .u8 0,.bool false,.int .i64 0,.string ⟨#[]⟩,.int .u64 0])).size=5:=rfl
  rw[← hcur0,Array.size_append,Array.size_append,size_zeroCells,size_zeroCells,List.size_toArray,hosl,hzc];omega
 have hc0t:cur0.toList.take (i * 5)=os:=by
  rw[← hcur0]
  simp only [Array.toList_append,List.append_assoc]
  rw[List.take_left' (by simpa using hosl)]
 obtain⟨H,hH⟩:∃ H,w.heap.size=H:=⟨_,rfl⟩
 rw[hcur0] at hrz
 have hW1h:(w.drew.alloc (.cells cur0 57)).heap[H]?=some (.cells cur0 57 (0,0)):=by rw[← hH];exact World.alloc_heap_new w.drew _
 have hW1f:Fr N0 w (w.drew.alloc (.cells cur0 57)):=(Fr.refl _ _).drew.alloc _
 have hH':g≠H∧vb≠H:=by omega
 obtain⟨W1,hW1⟩:∃ W,w.drew.alloc (.cells cur0 57)=W:=⟨_,rfl⟩
 rw[hW1,hH] at hrz
 rw[hW1] at hW1h hW1f
 obtain⟨cur1,hcur1⟩:∃ c,cur0.toList.take (i * 5) ++(Val.enc x) ++ cur0.toList.drop (i * 5+(Val.enc x).length)=c:=⟨_,rfl⟩
 have hrow:=ins_row2 (enc:=Val.enc) (k:=5) insV_len xs x i (by omega) cur0.toList (hc0t.trans hose.symm) (by rw[hl];simp only [Array.length_toList];omega) cur1 hcur1
 rw[hcse] at hrow
 have hc1l:cur1.length=G * 5:=by
  rw[← hcur1,List.length_append,List.length_append,List.length_take,List.length_drop,Array.length_toList,insV_len];omega
 have hc1:(Builtin.copy_ #[91,91] 3 #[.slice (some ⟨H,i * 5,none⟩) (n+1 - i) (G - i),.slice (some ⟨vb,0,none⟩) 1 1]).run Tryz.prog W1 = .ok (goInt ((1:Nat):Int)) (W1.setRow H cur1.toArray):=by
  rw[← hcur1]
  exact run_copy_rowK W1 91 91 3 57 5 H (i * 5) (n+1 - i) (G - i) ⟨vb,0,none⟩ 1 1 1 cur0 57 (Val.enc x) Tryz.underlying91 hsz hW1h (by show 1=min _ _;omega) (by rw[insV_len]) (fun j v hj=>by
   rw[addr_add0,(box_cells (hW1f.at (k:=vb) id hvl |>.trans hvb)).1]
   simpa using hj) (by rw[insV_len];omega) (insV_one x)
 obtain⟨cur2,hcur2⟩:∃ c,cur1.take ((i+1) * 5) ++ cs ++ cur1.drop ((i+1) * 5+cs.length)=c:=⟨_,rfl⟩
 rw[hcur2] at hrow
 have hW2h:(W1.setRow H cur1.toArray).heap[H]?=some (.cells cur1.toArray 57 (0,0)):=setRow_heap W1 H cur0 cur1.toArray 57 (0,0) hW1h
 have hW2g:(W1.setRow H cur1.toArray).heap[g]?=w.heap[g]?:=(setRow_other W1 H g _ hH'.1).trans (hW1f.at (k:=g) id hgl)
 have hW2f:Fr N0 w (W1.setRow H cur1.toArray):=hW1f.trans (fr_setRow _ H _) (fun k hk=>.inr (by omega))
 obtain⟨W2,hW2⟩:∃ W,W1.setRow H cur1.toArray=W:=⟨_,rfl⟩
 rw[hW2] at hc1 hW2h hW2g hW2f
 have hc2:(Builtin.copy_ #[91,91] 3 #[.slice (some ⟨H,(i+1) * 5,none⟩) (n+1 - (i+1)) (G - (i+1)),.slice (some ⟨g,i * 5,none⟩) (n - i) (cap - i)]).run Tryz.prog W2.drew = .ok (goInt ((n - i:Nat):Int)) (W2.drew.setRow H cur2.toArray):=by
  rw[← hcur2]
  exact run_copy_rowK W2.drew 91 91 3 57 5 H ((i+1) * 5) (n+1 - (i+1)) (G - (i+1)) ⟨g,i * 5,none⟩ (n - i) (cap - i) (n - i) cur1.toArray 57 cs Tryz.underlying91 hsz hW2h (by show n - i=min _ _;omega) hcsl (fun j v hj=>by
   rw[addr_add0]
   have e2:=hsrc (i * 5+j) v (by rw[List.getElem?_append_right (by omega),hosl,Nat.add_sub_cancel_left];exact hj)
   have e3:W2.drew.heap[g]?=w.heap[g]?:=hW2g
   rw[(box_cells (e3.trans hg)).1]
   rw[(box_cells hg).1] at e2
   exact e2) (by rw[List.size_toArray];omega) hcs1
 simp only [Nat.add_sub_add_right] at hc1 hc2
 have hb1:(0:Int)≤(i:Int)+1:=by omega
 have hw1:IntKind.i64.wrap ((i:Int)+1)=(i:Int)+1:=by rw[IntKind.wrap_i64];omega
 have hni:(0:Int)≤(n:Int)+1 - (i:Int):=by omega
 have hni2:(n:Int)+1 - (i:Int)≤10000000001:=by omega
 have hz2:¬((i:Int)=(n:Int)):=by omega
 have htn:((i:Int)+1).toNat=i+1:=by omega
 have hb2:¬(cap=i):=by omega
 have hb3:¬(G=i):=by omega
 have hb4:¬(G=i+1):=by omega
 have hin:i≤n:=by omega
 have HW2H:=hhd hW2h;have HROW:=hhd hrow;have HCL:=hhd hc1l;have HC2:=hhd hcur2;have HX:=hhd hl;have HW2F:=hhd hW2f;have HCS:=hhd hcsl;have HHH:=hhd hH
 clear hW2h hrow hc1l hcur2 hl hW2f hcsl hW1h hW1f hW2g hW1 hW2 hcur0 hcur1 hc0l hc0t hose hcse hosl hcs1 e1 hsrc hold h hvb hg hcm hcs htk hz0 hz1 hz2 hi0 hsz hG
 rw[hH]
 go_enter Tryz.func211,Tryz.ntmps211
 go_wp2_with (at_builtin;go_loud (refine Lib.wpList_append_run _ rfl _ _ _ _ rfl _ _ rfl rfl _ _ (hrz _) ?_))
 go_region_law (fail)
 go_wp2
 go_ret
 have hl:=HX.out
 refine⟨G,rfl,⟨?_,.inr ⟨H,G,cur2.toArray,rfl,by have:=HHH.out;omega,setRow_heap _ H _ cur2.toArray 57 (0,0) HW2H.out,hGn,hGm,?_,?_⟩⟩,HW2F.out.drew.trans (fr_setRow _ H _) (fun k hk=>.inr (by have:=HHH.out;omega))⟩
 ·rw[flat_len insV_len,List.length_append,List.length_cons,List.length_take,List.length_drop];congr 1;omega
 ·have:=HCL.out;have:=HCS.out
  rw[List.size_toArray,← HC2.out,List.length_append,List.length_append,List.length_take,List.length_drop];omega
 ·have:=HROW.out
  rw[hl] at this
  exact this
theorem insV_any(w:World)(base:Nat)(v:Value)(n i:Nat)(xs:List (Val))(x:Val)(vb:Nat)(hbase:base≤w.heap.size)(h:w.ownsRow base 57 5 v n (xs.flatMap (Val.enc)))(hl:xs.length=n)(hi:i≤n)(hn:n≤10000000000)(hvb:w.heap[vb]?=some (.cells (Val.enc x).toArray 57 (0,0)))(hne:v.ownBlock≠some vb) :
  Calls Tryz.prog 211 #[v,.int .i64 i,.slice (some ⟨vb,0,none⟩) 1 1] w fun e w'=>∃ v',e = .returned v'∧w'.ownsRow base 57 5 v' (n+1) ((xs.take i ++ x :: xs.drop i).flatMap (Val.enc))∧Fr (fun j=>v.ownBlock=some j) w w'∧∀ j,v'.ownBlock=some j→v.ownBlock=some j∨w.heap.size≤j:=by
 by_cases he:i=n
 ·subst he
  refine(insV_end w base v i xs x vb hbase h hn hvb).mono ?_
  rintro e w' ⟨v',rfl,h1,h2,h3⟩
  refine⟨v',rfl,?_,h2,h3⟩
  rw[List.take_of_length_le (by omega),List.drop_eq_nil_of_le (by omega)]
  exact h1
 ·have hv:∃ g cap,v = .slice (some ⟨g,0,none⟩) n cap:=by
   rcases h.2 with⟨_,h'⟩ | ⟨g,cap,cur,h',-⟩
   ·omega
   ·exact⟨g,cap,h'⟩
  obtain⟨g,cap,rfl⟩:=hv
  by_cases hr:n+1≤cap
  ·refine(insV_shift w base g n cap i xs x vb h hl (by omega) hr hvb (fun e=>hne (by rw[e];rfl))).mono ?_
   rintro e w' ⟨rfl,h1,h2⟩
   exact⟨_,rfl,h1,h2.mono fun k hk=>.inl (by simp only [Value.ownBlock];rw[show k=g from hk]),fun j hj=>.inl hj⟩
  ·refine(insV_grow w base g n cap i xs x vb hbase h hl (by omega) hn hr hvb).mono ?_
   rintro e w' ⟨G,rfl,h1,h2⟩
   exact⟨_,rfl,h1,h2.mono fun k hk=>hk.elim,fun j hj=>.inr (by simp only [Value.ownBlock,Option.some.injEq] at hj;omega)⟩
end
section
open Go.RowKit Go.Shelf Go.Lib
theorem step_append_run{P:Program}{ops:Array Oper}{o:Oper}{a:Act}{w:World}{K:Act→World→Prop}{Q:Exit→Act→World→Prop}{E:Prop}
  (hg:o.guard=none) (d x:Operand) (dT sT:TypeId) (hop:o.op=Op.call { callee:=Callee.builtin Builtin.append,args:=#[d,x],argTypes:=#[dT,sT] })
  (v u:Value) (hd:a.eval d=v) (hs:a.eval x=u) {v':Value} {w':World} (hr:(Builtin.append_ #[dT,sT] o.type #[v,u]).run P w = .ok v' w') (h:K (a.put o.dst v') w') :
  if Region.wanted o (yielded ops a.tmps)=true then Oper.wp P o a w K Q else E:=by
 have hw:Region.wanted o (yielded ops a.tmps)=true:=by simp [Region.wanted,hg]
 rw[if_pos hw]
 unfold Oper.wp
 simp [execOp,hop,resolve,invoke,builtin,hd,hs,hr,Result.andThen]
 exact h
section
variable {α:Type} {enc:α→List Value} {n:Nat}
end
end
section
open Go.RowKit Go.Shelf Go.Maps Go.Sort Go.Lib
attribute [local go_sem] Oper.semAt_some
theorem row_set_cells{g n cap base k:Nat}{e:TypeId}:∀ (vs:List Value) {w:World} {L:List Value} (o:Nat),w.ownsRow base e k (.slice (some ⟨g,0,none⟩) n cap) n L→o+vs.length≤L.length →
  (w.setCells g o vs).ownsRow base e k (.slice (some ⟨g,0,none⟩) n cap) n (L.take o ++ vs ++ L.drop (o+vs.length))
 | [],w,L,o,h,_=>by simpa [World.setCells] using h
 | v :: vs,w,L,o,h,hl=>by
  have hl':o+(vs.length+1)≤L.length:=by simpa using hl
  have h1:=row_set_cells vs (o+1) (h.stored o v).1 (by simp;omega)
  have e1:(L.set o v).take (o+1)=L.take o ++ [v]:=by
   rw[List.set_eq_take_append_cons_drop,if_pos (by omega),List.take_append,List.length_take,Nat.min_eq_left (by omega),List.take_of_length_le (by simp;omega)]
   simp
  have e2:(L.set o v).drop (o+1+vs.length)=L.drop (o+(vs.length+1)):=by
   rw[List.drop_set,if_pos (by omega)];congr 1;omega
  rw[e1,e2] at h1
  simpa [World.setCells] using h1
section
variable {α:Type} {enc:α→List Value} {k:Nat}
theorem flat_take(hk:∀ x,(enc x).length=k)(xs:List α)(i:Nat)(hi:i≤xs.length):(xs.flatMap enc).take (i * k)=(xs.take i).flatMap enc:=by
 have h6:xs.flatMap enc=(xs.take i).flatMap enc ++(xs.drop i).flatMap enc:=by rw[← List.flatMap_append,List.take_append_drop]
 rw[h6,List.take_left' (by rw[flat_length hk,List.length_take,Nat.min_eq_left hi])]
theorem flat_drop(hk:∀ x,(enc x).length=k)(xs:List α)(i:Nat)(hi:i≤xs.length):(xs.flatMap enc).drop (i * k)=(xs.drop i).flatMap enc:=by
 have h6:xs.flatMap enc=(xs.take i).flatMap enc ++(xs.drop i).flatMap enc:=by rw[← List.flatMap_append,List.take_append_drop]
 rw[h6,List.drop_left' (by rw[flat_length hk,List.length_take,Nat.min_eq_left hi])]
end
abbrev zeroValV:Value:=.agg #[.int .u8 0,.bool false,.int .i64 0,.string ⟨#[]⟩,.int .u64 0]
theorem zeroValR:∀ w,(zeroValue 57).run Tryz.prog w = .ok zeroValV w:=fun w=>by kernel_rfl
theorem delV_any(w:World)(base:Nat)(v:Value)(xs:List Val)(i:Nat)(h:w.ownsRow base 57 5 v xs.length (xs.flatMap Val.enc))(hi:i < xs.length)(hl:xs.length≤10000000000) :
  Calls Tryz.prog 210 #[v,.int .i64 i,.int .i64 (i+1:Nat)] w fun e w'=>∃ v',e = .returned v'∧w'.ownsRow base 57 5 v' (xs.eraseIdx i).length ((xs.eraseIdx i).flatMap Val.enc)∧Fr (fun k=>v.ownBlock=some k) w w'∧v'.ownBlock=v.ownBlock:=by
 obtain⟨i0,hi0,hz0,hz1,hz2⟩:=info_parts val_info
 obtain⟨n,hn⟩:∃ n,xs.length=n:=⟨_,rfl⟩
 obtain⟨g,cap,rfl⟩:∃ g cap,v = .slice (some ⟨g,0,none⟩) n cap:=by
  rcases h.2 with⟨_,h0⟩ | ⟨g,cap,_,hv,_⟩
  ·omega
  ·exact⟨g,cap,by rw[hv,hn]⟩
 have h':w.ownsRow base 57 5 (.slice (some ⟨g,0,none⟩) n cap) n (xs.flatMap Val.enc):=by rw[← hn];rw[← hn] at h;exact h
 have hcap:n≤cap∧cap≤9223372036854775807:=by
  rcases h'.2 with⟨h0,_⟩ | ⟨g',cap',cur,h0,hb,hg,hnc,hcm,hcs,htake⟩
  ·simp at h0
  ·simp at h0;obtain⟨rfl,rfl⟩:=h0;exact⟨hnc,by unfold maxLen at hcm;omega⟩
 obtain⟨hc1,hc2⟩:=hcap
 rw[hn] at hi hl
 obtain⟨m,hm⟩:∃ m,n - (i+1)=m:=⟨_,rfl⟩
 obtain⟨news,hnews⟩:∃ news,(xs.drop (i+1)).flatMap Val.enc=news:=⟨_,rfl⟩
 have hnl:news.length=m * 5:=by rw[← hnews,flat_length val_len,List.length_drop,hn,hm]
 have hL:(xs.flatMap Val.enc).length=n * 5:=by rw[flat_length val_len,hn]
 have hcell:∀ (W:World),W.ownsRow base 57 5 (.slice (some ⟨g,0,none⟩) n cap) n (xs.flatMap Val.enc)→∀ j u,news[j]?=some u→W.cell? ((⟨g,(i+1) * 5,none⟩:Addr).add j)=some u:=fun W hW j u hu=>by
  have hj:j < news.length:=(List.getElem?_eq_some_iff.1 hu).1
  rw[addr_add0,hW.cellAt ((i+1) * 5+j) (by rw[hL] at *;omega)]
  rw[← hnews,← flat_drop val_len xs (i+1) (by omega),List.getElem?_drop] at hu
  exact hu
 have happ:∀ (W:World) a ty,W.ownsRow base 57 5 (.slice (some ⟨g,0,none⟩) n cap) n (xs.flatMap Val.enc)→(a=(⟨g,(i+1) * 5,none⟩:Addr)∨m=0)→(Builtin.append_ #[91,91] ty #[.slice (some ⟨g,0,none⟩) i cap,.slice (some a) m (cap - (i+1))]).run Tryz.prog W = .ok (.slice (some ⟨g,0,none⟩) (i+m) cap) (W.setCells g (i * 5) news):=fun W a ty hW ha=>by
  have:=run_append_room_cells (P:=Tryz.prog) W 91 ty 57 i0 Tryz.underlying91 hi0 g 0 i cap a m (cap - (i+1)) news (by rw[hnl,hz1]) (fun j u hu=>by
   rcases ha with rfl | h0
   ·exact hcell W hW j u hu
   ·have hj:j < news.length:=(List.getElem?_eq_some_iff.1 hu).1
    rw[hnl,h0] at hj;omega) (by rw[← hnews];exact one_cells val_one _) (by omega) (fun j hj=>by rw[hz1,Nat.zero_add,hW.cellAt _ (by omega),List.getElem?_eq_getElem (by rw[hL];omega)];rfl) (fun j hj=>by rw[hz1,Nat.zero_add];exact hW.frozenAt _)
  rw[hz1,Nat.zero_add] at this
  exact this
 obtain⟨ys,hys⟩:∃ ys,xs.take i ++ xs.drop (i+1) ++ xs.drop (n - 1)=ys:=⟨_,rfl⟩
 have hyl:ys.length=n:=by rw[← hys];simp;omega
 have hset:∀ (W:World),W.ownsRow base 57 5 (.slice (some ⟨g,0,none⟩) n cap) n (xs.flatMap Val.enc)→(W.setCells g (i * 5) news).ownsRow base 57 5 (.slice (some ⟨g,0,none⟩) n cap) n (ys.flatMap Val.enc):=fun W hW=>by
  have:=row_set_cells news (i * 5) hW (by rw[hL];omega)
  rw[flat_take val_len xs i (by omega),hnl,← Nat.add_mul,flat_drop val_len xs (i+m) (by omega),← hnews,← List.flatMap_append,← List.flatMap_append,show i+m=n - 1 by omega,hys] at this
  rw[← hnews];exact this
 have hty:ys.take (n - 1)=xs.eraseIdx i:=by
  rw[← hys,List.eraseIdx_eq_take_drop_succ,List.take_left' (by simp;omega)]
 have hfin:∀ (W:World) vs,W.ownsRow base 57 5 (.slice (some ⟨g,0,none⟩) n cap) n (ys.flatMap Val.enc)→(W.setCells g ((n - 1) * 5) vs).ownsRow base 57 5 (.slice (some ⟨g,0,none⟩) (n - 1) cap) (n - 1) ((xs.eraseIdx i).flatMap Val.enc):=fun W vs hW=>by
  have:=row_clearK (enc:=Val.enc) (k:=5) val_len (m:=n - 1) vs hW hyl (by omega)
  rwa [hty] at this
 have hfr:∀ (W:World) o vs (zs:List Val),W.ownsRow base 57 5 (.slice (some ⟨g,0,none⟩) n cap) n (zs.flatMap Val.enc)→Fr (fun k=>(Value.slice (some ⟨g,0,none⟩) n cap).ownBlock=some k) W (W.setCells g o vs):=fun W o vs zs hW=>by
  rcases hW.2 with⟨h',_⟩ | ⟨g',cap',cur,h',hb,hcur,_⟩
  ·simp at h'
  ·simp only [Value.slice.injEq,Option.some.injEq,Addr.mk.injEq,and_true,true_and] at h'
   obtain⟨rfl,rfl⟩:=h'
   obtain⟨_,_,_,_,h5⟩:=setCells_specW g _ _ vs W o cur hcur
   exact h5.mono fun k hk=>.inl (by rw[hk];rfl)
 have hcl:∀ (W:World) ty,W.ownsRow base 57 5 (.slice (some ⟨g,0,none⟩) n cap) n (ys.flatMap Val.enc)→(Builtin.clear_ #[91] ty #[.slice (some ⟨g,(i+m) * 5,none⟩) (n - (i+m)) (cap - (i+m))]).run Tryz.prog W = .ok (.tuple #[]) (W.setCells g ((i+m) * 5) (Builtin.zeroCells zeroValV.cells (n - (i+m))).toList):=fun W ty hW=>
  run_clear_cells W 91 57 ty zeroValV Tryz.underlying91 zeroValR g ((i+m) * 5) _ _ (by omega) (by intro u hu;simp [Value.cells] at hu;rcases hu with h | h | h | h | h <;> subst h <;> rfl)
   (fun t ht=>by
    have e5:zeroValV.cells.size=5:=rfl
    rw[e5] at ht
    have hyl5:(ys.flatMap Val.enc).length=n * 5:=by rw[flat_length val_len,hyl]
    rw[hW.cellAt _ (by rw[hyl5] at *;omega),List.getElem?_eq_getElem (by rw[hyl5];omega)];rfl) (fun t ht=>hW.frozenAt _)
 have hd:w.drew.ownsRow base 57 5 (.slice (some ⟨g,0,none⟩) n cap) n (xs.flatMap Val.enc):=h'.fr0 (Fr.refl _ _).drew
 have happ1:=fun a ha=>happ w.drew a 91 hd ha
 obtain⟨W1,hW1⟩:∃ W1,w.drew.setCells g (i * 5) news=W1:=⟨_,rfl⟩
 have hr1:=hset w.drew hd
 have hcl1:=fun ty=>hcl _ ty hr1
 have hfn:=hfin _ (Builtin.zeroCells zeroValV.cells (n - (i+m))).toList hr1
 have hff:Fr (fun k=>(Value.slice (some ⟨g,0,none⟩) n cap).ownBlock=some k) w _:=(((Fr.refl (fun k=>(Value.slice (some ⟨g,0,none⟩) n cap).ownBlock=some k) w).drew.trans (hfr w.drew (i * 5) news xs hd) fun k hk=>.inl hk)).trans (hfr _ ((n - 1) * 5) (Builtin.zeroCells zeroValV.cells (n - (i+m))).toList ys hr1) fun k hk=>.inl hk
 simp only [hW1] at happ1 hcl1 hfn hff
 have HFN:=hhd hfn;have HFF:=hhd hff
 have hle:(xs.eraseIdx i).length=n - 1:=by rw[List.length_eraseIdx];simp [hn,hi]
 have HLE:=hhd hle
 have hni:¬ n=i:=by omega
 clear hfn hff hle happ hset hfin hfr hcl hd hr1 h h' hcell hnews hnl hL hys hyl hty hW1 hn
 obtain rfl:n=i+1+m:=by omega
 have e1:i+1+m - 1=i+m:=by omega
 simp only [e1] at *
 clear e1 hm
 by_cases hc:cap=i+1
 ·obtain rfl:m=0:=by omega
  subst hc
  have hrun:=happ1 (⟨g,0,none⟩:Addr) (.inr rfl)
  have q0:0≤(i:Int)+1:=by omega
  have q1:(i:Int)≤(i:Int)+1:=by omega
  simp only [Nat.add_zero,Nat.sub_self,Nat.add_sub_cancel_left] at *
  go_enter Tryz.func210,Tryz.ntmps210
  go_wp2
  go_region_law (refine step_append_run (by rfl) _ _ 91 91 (by rfl) _ _ (by go_simp) (by go_simp) hrun ?_)
  go_wp2
  go_ret
  exact⟨_,rfl,by rw[HLE.out];exact HFN.out,HFF.out,rfl⟩
 ·have hrun:=happ1 (⟨g,(i+1) * 5,none⟩:Addr) (.inl rfl)
  have q0:0≤(i:Int)+1:=by omega
  have q1:(i:Int)≤(cap:Int):=by omega
  have q2:(i:Int)+1≤(cap:Int):=by omega
  have q3:(i:Int)+1≤(i:Int)+1+(m:Int):=by omega
  have q4:(i:Int)≤(i:Int)+1+(m:Int):=by omega
  have q5:(i:Int)+(m:Int)≤(i:Int)+1+(m:Int):=by omega
  have q6:(i:Int)+1+(m:Int)≤(cap:Int):=by omega
  have q7:¬ cap=i+m:=by omega
  go_enter Tryz.func210,Tryz.ntmps210
  go_wp2
  go_region_law (refine step_append_run (by rfl) _ _ 91 91 (by rfl) _ _ (by go_simp) (by go_simp) hrun ?_)
  go_wp2
  go_ret
  exact⟨_,rfl,by rw[HLE.out];exact HFN.out,HFF.out,rfl⟩
end
end Go.Proofs.YtefepfiijoafbaaGreat
