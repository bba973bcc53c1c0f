/- ROne -/
import Derived.Deep.RegionHeld3
import Derived.Test.YtefepfiijoafbaaGreatQRCnt
import Derived.Test.YtefepfiijoafbaaGreatQIMay2
import Derived.Test.YtefepfiijoafbaaGreatQFndB
import Derived.Test.YtefepfiijoafbaaGreatQFitB
set_option linter.unusedVariables false
set_option linter.unusedSimpArgs false
set_option maxRecDepth 100000
set_option maxHeartbeats 4000000
namespace Go.Proofs.YtefepfiijoafbaaGreat
open Go.RowKit Go.Shelf Go.Maps Go.Sort
attribute [local go_sem] Oper.semAt_some
attribute [local go_sem ↓] Go.wp_at_zero Go.wp_at_succ
attribute [local irreducible] wpQuiet
open Classical in
noncomputable def anyT(q s:ByteArray):Bool:=decide (∃ x ∈ termsOf q,x ∈ termsOf s)
open Classical in
noncomputable def allT(q s:ByteArray):Bool:=decide (termsOf q≠[]∧∀ x ∈ termsOf q,x ∈ termsOf s)
theorem cntS_pos{own:List ByteArray}{x:ByteArray}:0 < cntS own x↔x ∈ own:=by
 classical
 unfold cntS
 rw[List.length_pos_iff_exists_mem]
 constructor
 ·rintro⟨y,hy⟩
  obtain⟨h1,h2⟩:=List.mem_filter.1 hy
  have:y=x:=by simpa using h2
  exact this ▸ h1
 ·intro h
  exact⟨x,List.mem_filter.2 ⟨h,by simp⟩⟩
theorem cntT_pos{own l:List ByteArray}:0 < cntT own l↔∃ x ∈ l,x ∈ own:=by
 induction l with
 | nil=>simp [cntT]
 | cons y l ih=>
  have e:cntT own (y :: l)=cntS own y+cntT own l:=by unfold cntT;rw[List.map_cons,List.sum_cons]
  rw[e]
  constructor
  ·intro h
   by_cases h1:0 < cntS own y
   ·exact⟨y,by simp,cntS_pos.1 h1⟩
   ·obtain⟨x,hx,h2⟩:=ih.1 (by omega)
    exact⟨x,by simp [hx],h2⟩
  ·rintro⟨x,hx,h2⟩
   rcases List.mem_cons.1 hx with rfl | hx
   ·have:=cntS_pos.2 h2;omega
   ·have:=ih.2 ⟨x,hx,h2⟩;omega
theorem cntS_one{own:List ByteArray}(h:own.Nodup)(x:ByteArray):cntS own x≤1:=by
 classical
 unfold cntS
 have h2:(own.filter fun y=>decide (y=x)).Nodup:=List.Pairwise.sublist List.filter_sublist h
 have h3:∀ y ∈ own.filter fun y=>decide (y=x),y=x:=fun y hy=>by simpa using (List.mem_filter.1 hy).2
 generalize (own.filter fun y=>decide (y=x))=l at h2 h3
 match l,h2,h3 with
 | [],_,_=>simp
 | [_],_,_=>simp
 | a :: b :: l,h2,h3=>
  have e1:=h3 a (by simp)
  have e2:=h3 b (by simp)
  rw[e1,e2] at h2
  simp at h2
theorem cntT_all{own l:List ByteArray}(h:own.Nodup):cntT own l=l.length↔∀ x ∈ l,x ∈ own:=by
 have hle:∀ l:List ByteArray,cntT own l≤l.length:=fun l=>by
  induction l with
  | nil=>simp [cntT]
  | cons y l ih=>
   have e:cntT own (y :: l)=cntS own y+cntT own l:=by unfold cntT;rw[List.map_cons,List.sum_cons]
   have:=cntS_one h y
   rw[e,List.length_cons];omega
 induction l with
 | nil=>simp [cntT]
 | cons y l ih=>
  have e:cntT own (y :: l)=cntS own y+cntT own l:=by unfold cntT;rw[List.map_cons,List.sum_cons]
  have h1:=cntS_one h y
  have h2:=hle l
  rw[e,List.length_cons]
  constructor
  ·intro hh x hx
   rcases List.mem_cons.1 hx with rfl | hx
   ·exact cntS_pos.1 (by omega)
   ·exact ih.1 (by omega) x hx
  ·intro hh
   have h3:=cntS_pos.2 (hh y (by simp))
   have h4:=ih.2 fun x hx=>hh x (by simp [hx])
   omega
theorem normS_nodup(xs:List ByteArray):(normS xs).Nodup:=by
 unfold normS
 have h:=(normL_rises xs).1
 rw[List.nodup_iff_pairwise_ne,List.pairwise_map]
 refine h.imp fun {a b} hab e=>?_
 have:a=b:=by
  have e2:=congrArg (fun s:ByteArray=>s.data.toList) e
  simpa [mkS] using e2
 subst this
 exact lt_irreflL _ hab
noncomputable def oneR(f:Fn)(x:Val):Bool:=
 if f.kind=3 then f.vals.any (eqVal x)
 else if f.kind=4 then anyT ((f.vals[0]?.map (·.s)).getD ⟨#[]⟩) x.s
 else if f.kind=5 then allT ((f.vals[0]?.map (·.s)).getD ⟨#[]⟩) x.s
 else if f.kind=6 then decide (x.n < (f.vals[0]?.map (·.n)).getD 0)
 else if f.kind=7 then decide (x.n≤(f.vals[0]?.map (·.n)).getD 0)
 else if f.kind=8 then decide ((f.vals[0]?.map (·.n)).getD 0 < x.n)
 else if f.kind=9 then decide ((f.vals[0]?.map (·.n)).getD 0≤x.n)
 else decide ((f.vals[0]?.map (·.n)).getD 0≤x.n) && decide (x.n≤(f.vals[1]?.map (·.n)).getD 0)
section
variable (w:World) (pred:ByteArray) (back:Bool) (uv sv:Value) (b off n c:Nat) (xk xn xu:Int) (xb:Bool) (xs:ByteArray)
theorem one_6(y:Int)(hn:0 < n)(hy:w.cell? ⟨b,off+2,none⟩=some (.int .i64 y)) :
  Calls Tryz.prog 179 #[.agg #[.int .u8 6,.string pred,.bool back,.slice (some ⟨b,off,none⟩) n c,uv,sv],.agg #[.int .u8 xk,.bool xb,.int .i64 xn,.string xs,.int .u64 xu]] w fun e w'=>e = .returned (.bool (decide (xn < y)))∧Fr N0 w w':=by
 have hn0:(0:Int) < (n:Int):=by omega
 have hfr:Fr N0 w ((w.alloc (.cells #[.int .u8 6,.string pred,.bool back,.slice (some ⟨b,off,none⟩) n c,uv,sv] 94)).alloc (.cells #[.int .u8 xk,.bool xb,.int .i64 xn,.string xs,.int .u64 xu] 57)):=((Fr.refl N0 w).alloc _).alloc _
 have hy2:=hfr.cell id hy
 have HFR:=hhd hfr
 clear hy hfr
 go_enter Tryz.func179,Tryz.ntmps179
 go_wp2_with fail
 go_quiet (fail)
 go_wp2_with fail
 go_ret
 exact⟨rfl,HFR.out.drewN _⟩
theorem one_7(y:Int)(hn:0 < n)(hy:w.cell? ⟨b,off+2,none⟩=some (.int .i64 y)) :
  Calls Tryz.prog 179 #[.agg #[.int .u8 7,.string pred,.bool back,.slice (some ⟨b,off,none⟩) n c,uv,sv],.agg #[.int .u8 xk,.bool xb,.int .i64 xn,.string xs,.int .u64 xu]] w fun e w'=>e = .returned (.bool (decide (xn≤y)))∧Fr N0 w w':=by
 have hn0:(0:Int) < (n:Int):=by omega
 have hfr:Fr N0 w ((w.alloc (.cells #[.int .u8 7,.string pred,.bool back,.slice (some ⟨b,off,none⟩) n c,uv,sv] 94)).alloc (.cells #[.int .u8 xk,.bool xb,.int .i64 xn,.string xs,.int .u64 xu] 57)):=((Fr.refl N0 w).alloc _).alloc _
 have hy2:=hfr.cell id hy
 have HFR:=hhd hfr
 clear hy hfr
 go_enter Tryz.func179,Tryz.ntmps179
 go_wp2_with fail
 go_quiet (fail)
 go_wp2_with fail
 go_ret
 exact⟨rfl,HFR.out.drewN _⟩
theorem one_8(y:Int)(hn:0 < n)(hy:w.cell? ⟨b,off+2,none⟩=some (.int .i64 y)) :
  Calls Tryz.prog 179 #[.agg #[.int .u8 8,.string pred,.bool back,.slice (some ⟨b,off,none⟩) n c,uv,sv],.agg #[.int .u8 xk,.bool xb,.int .i64 xn,.string xs,.int .u64 xu]] w fun e w'=>e = .returned (.bool (decide (y < xn)))∧Fr N0 w w':=by
 have hn0:(0:Int) < (n:Int):=by omega
 have hfr:Fr N0 w ((w.alloc (.cells #[.int .u8 8,.string pred,.bool back,.slice (some ⟨b,off,none⟩) n c,uv,sv] 94)).alloc (.cells #[.int .u8 xk,.bool xb,.int .i64 xn,.string xs,.int .u64 xu] 57)):=((Fr.refl N0 w).alloc _).alloc _
 have hy2:=hfr.cell id hy
 have HFR:=hhd hfr
 clear hy hfr
 go_enter Tryz.func179,Tryz.ntmps179
 go_wp2_with fail
 go_quiet (fail)
 go_wp2_with fail
 go_ret
 exact⟨rfl,HFR.out.drewN _⟩
theorem one_9(y:Int)(hn:0 < n)(hy:w.cell? ⟨b,off+2,none⟩=some (.int .i64 y)) :
  Calls Tryz.prog 179 #[.agg #[.int .u8 9,.string pred,.bool back,.slice (some ⟨b,off,none⟩) n c,uv,sv],.agg #[.int .u8 xk,.bool xb,.int .i64 xn,.string xs,.int .u64 xu]] w fun e w'=>e = .returned (.bool (decide (y≤xn)))∧Fr N0 w w':=by
 have hn0:(0:Int) < (n:Int):=by omega
 have hfr:Fr N0 w ((w.alloc (.cells #[.int .u8 9,.string pred,.bool back,.slice (some ⟨b,off,none⟩) n c,uv,sv] 94)).alloc (.cells #[.int .u8 xk,.bool xb,.int .i64 xn,.string xs,.int .u64 xu] 57)):=((Fr.refl N0 w).alloc _).alloc _
 have hy2:=hfr.cell id hy
 have HFR:=hhd hfr
 clear hy hfr
 go_enter Tryz.func179,Tryz.ntmps179
 go_wp2_with fail
 go_quiet (fail)
 go_wp2_with fail
 go_ret
 exact⟨rfl,HFR.out.drewN _⟩
theorem one_10(kd y z:Int)(hk:kd≠3∧kd≠4∧kd≠5∧kd≠6∧kd≠7∧kd≠8∧kd≠9)(hn:1 < n)(hy:w.cell? ⟨b,off+2,none⟩=some (.int .i64 y))(hz:w.cell? ⟨b,off+7,none⟩=some (.int .i64 z)) :
  Calls Tryz.prog 179 #[.agg #[.int .u8 kd,.string pred,.bool back,.slice (some ⟨b,off,none⟩) n c,uv,sv],.agg #[.int .u8 xk,.bool xb,.int .i64 xn,.string xs,.int .u64 xu]] w fun e w'=>e = .returned (.bool (decide (y≤xn) && decide (xn≤z)))∧Fr N0 w w':=by
 have hn0:(0:Int) < (n:Int):=by omega
 have hn1:(1:Int) < (n:Int):=by omega
 obtain⟨c3,c4,c5,c6,c7,c8,c9⟩:=hk
 have d3:(kd == 3)=false:=by simpa using c3
 have d4:(kd == 4)=false:=by simpa using c4
 have d5:(kd == 5)=false:=by simpa using c5
 have d6:(kd == 6)=false:=by simpa using c6
 have d7:(kd == 7)=false:=by simpa using c7
 have d8:(kd == 8)=false:=by simpa using c8
 have d9:(kd == 9)=false:=by simpa using c9
 have hfr:Fr N0 w ((w.alloc (.cells #[.int .u8 kd,.string pred,.bool back,.slice (some ⟨b,off,none⟩) n c,uv,sv] 94)).alloc (.cells #[.int .u8 xk,.bool xb,.int .i64 xn,.string xs,.int .u64 xu] 57)):=((Fr.refl N0 w).alloc _).alloc _
 have hy2:=hfr.cell id hy
 have hz2:=hfr.cell id hz
 have HFR:=hhd hfr
 clear hy hz hfr
 by_cases h1:y≤xn
 ·go_enter Tryz.func179,Tryz.ntmps179
  go_wp2_with fail
  go_quiet (fail)
  go_wp2_with fail
  go_ret
  exact⟨by simp [h1];try (intro _;omega),HFR.out.drewN _⟩
 ·have h1d:decide (y≤xn)=false:=decide_eq_false h1
  go_enter Tryz.func179,Tryz.ntmps179
  go_wp2_with fail
  go_quiet (fail)
  go_wp2_with fail
  go_ret
  exact⟨by simp [h1];try (intro _;omega),HFR.out.drewN _⟩
theorem one_5(q:ByteArray)(hq:q.size≤10000)(hx:xs.size≤10000)(hn:0 < n)(hy:w.cell? ⟨b,off+3,none⟩=some (.string q)) :
  Calls Tryz.prog 179 #[.agg #[.int .u8 5,.string pred,.bool back,.slice (some ⟨b,off,none⟩) n c,uv,sv],.agg #[.int .u8 xk,.bool xb,.int .i64 xn,.string xs,.int .u64 xu]] w fun e w'=>e = .returned (.bool (allT q xs))∧Fr N0 w w':=by
 have hn0:(0:Int) < (n:Int):=by omega
 have hfr:Fr N0 w ((w.alloc (.cells #[.int .u8 5,.string pred,.bool back,.slice (some ⟨b,off,none⟩) n c,uv,sv] 94)).alloc (.cells #[.int .u8 xk,.bool xb,.int .i64 xn,.string xs,.int .u64 xu] 57)):=((Fr.refl N0 w).alloc _).alloc _
 have hy2:=hfr.cell id hy
 have hte:=fun W=>r3Terms_any W q (by omega)
 have htl:=termsOf_len q
 have hcn:=fun W bb v (h:Strs W bb v (termsOf q))=>r19terms_any W xs (by omega) bb v (termsOf q) h (by omega)
 have hres:allT q xs=decide (0 < (termsOf q).length∧cntT (termsOf xs) (termsOf q)=(termsOf q).length):=by
  unfold allT
  rw[decide_eq_decide,cntT_all (show(termsOf xs).Nodup from normS_nodup _),List.length_pos_iff]
 obtain⟨l,hl⟩:∃ l,termsOf q=l:=⟨_,rfl⟩
 rw[hl] at hres htl
 simp only [hl] at hte hcn
 obtain⟨C,hC⟩:∃ C,cntT (termsOf xs) l=C:=⟨_,rfl⟩
 rw[hC] at hres
 simp only [hC] at hcn
 obtain⟨m,hm⟩:∃ m,l.length=m:=⟨_,rfl⟩
 rw[hm] at hres htl
 rw[hres]
 have HFR:=hhd hfr;have HTE:=hhd hte;have HCN:=hhd hcn;have HM:=hhd hm
 clear hy hfr hte hcn hres hl hC hm
 go_enter Tryz.func179,Tryz.ntmps179
 go_wp2_with fail
 refine(HTE.out _).mono ?_
 rintro e w1 ⟨v1,b1,rfl,hS,-,hf1⟩
 obtain⟨b3,b4⟩:=two_boxes hf1
 obtain⟨m4,n4,l4⟩:=box_cells b4
 have HS:=hhd hS
 obtain⟨sa,so,scp,rfl,-⟩:=hS
 have HS1:=HS.out
 rw[HM.out] at HS1
 have HS2:=hhd HS1
 rw[HM.out]
 have HF1:=hhd (HFR.out.then0 hf1)
 clear HS hf1 b3 b4 HS1 hy2
 by_cases h0:0 < m
 ·have h0':(0:Int) < (m:Int):=by omega
  go_wp2_with fail
  refine(HCN.out _ _ _ HS2.out).mono ?_
  rintro e w2 ⟨rfl,hf2⟩
  have HF2:=hhd (HF1.out.then0 hf2)
  clear hf2
  go_wp2_with fail
  go_ret
  refine⟨?_,HF2.out⟩
  by_cases hc:C=m
  ·simp [hc,h0];try rfl
  ·have hc':¬((C:Int)=(m:Int)):=by omega
   simp [hc,hc',h0];try rfl
 ·have h0':¬(0:Int) < (m:Int):=by omega
  go_wp2_with fail
  go_ret
  exact⟨by simp [h0];try rfl,HF1.out⟩
abbrev OneS(w:World)(fc xc:Array Value)(q:ByteArray)(W:World):Prop:=BoxB w.heap.size fc W∧BoxB (w.heap.size+1) xc W∧W.cell? ⟨b,off+3,none⟩=some (.string q)∧Fr N0 w W
theorem oneS_keep{b off:Nat}{w:World}{fc xc:Array Value}{q:ByteArray}{W W':World}(h:OneS b off w fc xc q W)(hf:Fr N0 W W'):OneS b off w fc xc q W':=
 ⟨boxB_keep hf id h.1,boxB_keep hf id h.2.1,hf.cell id h.2.2.1,h.2.2.2.then0 hf⟩
theorem one_4(q:ByteArray)(hq:q.size≤10000)(hx:xs.size≤10000)(hn:0 < n)(hy:w.cell? ⟨b,off+3,none⟩=some (.string q)) :
  Calls Tryz.prog 179 #[.agg #[.int .u8 4,.string pred,.bool back,.slice (some ⟨b,off,none⟩) n c,uv,sv],.agg #[.int .u8 xk,.bool xb,.int .i64 xn,.string xs,.int .u64 xu]] w fun e w'=>e = .returned (.bool (anyT q xs))∧Fr N0 w w':=by
 have hn0:(0:Int) < (n:Int):=by omega
 have hfr:Fr N0 w ((w.alloc (.cells #[.int .u8 4,.string pred,.bool back,.slice (some ⟨b,off,none⟩) n c,uv,sv] 94)).alloc (.cells #[.int .u8 xk,.bool xb,.int .i64 xn,.string xs,.int .u64 xu] 57)):=((Fr.refl N0 w).alloc _).alloc _
 have hte:=fun W=>r3Terms_any W q (by omega)
 have htl:=termsOf_len q
 have hcn:=fun W bb v (h:Strs W bb v (termsOf q))=>r19terms_any W xs (by omega) bb v (termsOf q) h (by omega)
 have hres:anyT q xs=decide (0 < cntT (termsOf xs) (termsOf q)):=by
  unfold anyT
  rw[decide_eq_decide,cntT_pos]
 obtain⟨l,hl⟩:∃ l,termsOf q=l:=⟨_,rfl⟩
 rw[hl] at hres htl
 simp only [hl] at hte hcn
 obtain⟨C,hC⟩:∃ C,cntT (termsOf xs) l=C:=⟨_,rfl⟩
 rw[hC] at hres
 simp only [hC] at hcn
 rw[hres]
 obtain⟨b3,b4⟩:=two_boxes (Fr.refl N0 ((w.alloc (.cells #[.int .u8 4,.string pred,.bool back,.slice (some ⟨b,off,none⟩) n c,uv,sv] 94)).alloc (.cells #[.int .u8 xk,.bool xb,.int .i64 xn,.string xs,.int .u64 xu] 57)))
 have hS0:OneS b off w #[.int .u8 4,.string pred,.bool back,.slice (some ⟨b,off,none⟩) n c,uv,sv] #[.int .u8 xk,.bool xb,.int .i64 xn,.string xs,.int .u64 xu] q (((w.alloc (.cells #[.int .u8 4,.string pred,.bool back,.slice (some ⟨b,off,none⟩) n c,uv,sv] 94)).alloc (.cells #[.int .u8 xk,.bool xb,.int .i64 xn,.string xs,.int .u64 xu] 57)).drew):=oneS_keep (W:=(w.alloc (.cells #[.int .u8 4,.string pred,.bool back,.slice (some ⟨b,off,none⟩) n c,uv,sv] 94)).alloc (.cells #[.int .u8 xk,.bool xb,.int .i64 xn,.string xs,.int .u64 xu] 57)) ⟨⟨(box_cells b3).1,lt_of_block b3⟩,⟨(box_cells b4).1,lt_of_block b4⟩,hfr.cell id hy,hfr⟩ (Fr.refl _ _).drew
 have HTE:=hhd hte;have HCN:=hhd hcn;have HS0:=hhd hS0
 clear hy hfr hte hcn hres hl hC b3 b4 hS0
 go_enter Tryz.func179,Tryz.ntmps179
 go_wp2_with fail
 obtain⟨W1,hW1⟩:∃ W1,(w.alloc (.cells #[.int .u8 4,.string pred,.bool back,.slice (some ⟨b,off,none⟩) n c,uv,sv] 94)).alloc (.cells #[.int .u8 xk,.bool xb,.int .i64 xn,.string xs,.int .u64 xu] 57)=W1:=⟨_,rfl⟩
 rw[hW1] at HS0 ⊢
 have hS0:=HS0.out
 clear hW1
 go_region_held3 (OneS b off w #[.int .u8 4,.string pred,.bool back,.slice (some ⟨b,off,none⟩) n c,uv,sv] #[.int .u8 xk,.bool xb,.int .i64 xn,.string xs,.int .u64 xu] q) (first
  |(with_reducible assumption)
  | fail) (first
  |(go_simp;go_at_call 224;refine(HTE.out _).mono ?_;rintro e w3 ⟨v3,b3,rfl,hr3,-,hf3⟩;have hs3:=oneS_keep hS0 hf3)
  |(go_simp;go_at_call 223;refine(HCN.out _ b3 v3 hr3).mono ?_;rintro e w4 ⟨rfl,hf4⟩;have hs4:=oneS_keep hs3 hf4)
  | fail)
 all_goals
  go_wp2_with fail
  go_ret
  exact⟨by simp;try rfl,hs4.2.2.2⟩
end
theorem one_3(w:World)(b:Nat)(pred:ByteArray)(back:Bool)(vv uv sv:Value)(vals:List Val)(hV:RowsK Val.enc 5 w b vv vals)(hl:vals.length≤9223372036854775807)(x:Val) :
  Calls Tryz.prog 179 #[.agg #[.int .u8 3,.string pred,.bool back,vv,uv,sv],.agg x.enc.toArray] w fun e w'=>e = .returned (.bool (vals.any (eqVal x)))∧Fr N0 w w':=by
 obtain⟨a,off,cap,rfl,h1,h2,h3,h4,h5⟩:=hV
 have hany:∀ k (h:k < vals.length),eqVal x vals[k]=true→vals.any (eqVal x)=true:=fun k h e=>List.any_eq_true.2 ⟨_,List.getElem_mem h,e⟩
 have hnone:(∀ j (h:j < vals.length),eqVal x vals[j]=false)→vals.any (eqVal x)=false:=fun hh=>by
  rw[Bool.eq_false_iff];intro hx
  obtain⟨y,hy,e⟩:=List.any_eq_true.1 hx
  obtain⟨j,hj,rfl⟩:=List.getElem_of_mem hy
  rw[hh j hj] at e;cases e
 obtain⟨p,hp⟩:∃ p,eqVal x=p:=⟨_,rfl⟩
 rw[hp] at hany hnone ⊢
 obtain⟨AV,hAV⟩:∃ AV,vals.any p=AV:=⟨_,rfl⟩
 rw[hAV] at hany hnone ⊢
 obtain⟨n,hn⟩:∃ n,vals.length=n:=⟨_,rfl⟩
 rw[hn] at h1 h3 hl ⊢
 obtain⟨zk,zb,zn,zs,zu⟩:=x
 simp only [Val.enc]
 have hf0:Fr N0 w ((w.alloc (.cells #[.int .u8 3,.string pred,.bool back,.slice a n cap,uv,sv] 94)).alloc (.cells #[.int .u8 zk,.bool zb,.int .i64 zn,.string zs,.int .u64 zu] 57)):=((Fr.refl N0 w).alloc _).alloc _
 obtain⟨b3,b4⟩:=two_boxes (Fr.refl N0 ((w.alloc (.cells #[.int .u8 3,.string pred,.bool back,.slice a n cap,uv,sv] 94)).alloc (.cells #[.int .u8 zk,.bool zb,.int .i64 zn,.string zs,.int .u64 zu] 57)))
 have HC:=hhd h5;have HP:=hhd hp;have HANY:=hhd hany;have HNONE:=hhd hnone;have HN:=hhd hn;have HB3:=hhd b3;have HB4:=hhd b4;have HF:=hhd hf0
 clear h5 h4 hp hany hnone hn b3 b4 hf0 hAV
 go_enter Tryz.func179,Tryz.ntmps179
 go_wp2_with fail
 obtain⟨W1,hW1⟩:∃ W1,(w.alloc (.cells #[.int .u8 3,.string pred,.bool back,.slice a n cap,uv,sv] 94)).alloc (.cells #[.int .u8 zk,.bool zb,.int .i64 zn,.string zs,.int .u64 zu] 57)=W1:=⟨_,rfl⟩
 rw[hW1] at HB3 HB4 HF ⊢
 clear hW1
 go_loopw [5] (fun iv wr=>∃ k:Nat,k≤n∧iv = .int .i64 k∧Hid (∀ j (h:j < vals.length),j < k→p vals[j]=false)∧Hid (Fr N0 W1 wr)) (fun iv _=>n - (intOf iv).toNat)
 case atStart=>exact⟨0,Nat.zero_le _,by first | rfl | go_num,fun j h hj=>by omega,Fr.refl _ _⟩
 case round=>
  obtain⟨k,hk,rfl,hn,hfr⟩:=hrel
  obtain⟨m3,n3,l3⟩:=box_cells ((hfr.out.at (k:=w.heap.size) id (lt_of_block HB3.out)).trans HB3.out)
  obtain⟨m4,n4,l4⟩:=box_cells ((hfr.out.at (k:=w.heap.size+1) id (lt_of_block HB4.out)).trans HB4.out)
  by_cases hlt:k < n
  ·obtain rfl:=h3 (by omega)
   have hx:k < vals.length:=by rw[HN.out];exact hlt
   have c0:=HC.out k hx 0 (by decide);have c1:=HC.out k hx 1 (by decide);have c2:=HC.out k hx 2 (by decide);have c3:=HC.out k hx 3 (by decide);have c4:=HC.out k hx 4 (by decide)
   rw[Nat.add_zero] at c0
   have hnx:p vals[k]=false→∀ j (h:j < vals.length),j < k+1→p vals[j]=false:=fun he j h hj=>by
    rcases Nat.lt_or_ge j k with h' | h'
    ·exact hn.out j h h'
    ·have:j=k:=by omega
     subst this;exact he
   have hfd:=HANY.out k hx
   obtain⟨y,hy⟩:∃ y,vals[k]=y:=⟨_,rfl⟩
   simp only [hy] at c0 c1 c2 c3 c4 hnx hfd
   obtain⟨vk,vb,vn,vs,vu⟩:=y
   simp only [Val.enc,List.getElem?_cons_zero,List.getElem?_cons_succ] at c0 c1 c2 c3 c4
   have hfw:=HF.out.then0 hfr.out
   replace c0:=hfw.cell id c0;replace c1:=hfw.cell id c1;replace c2:=hfw.cell id c2;replace c3:=hfw.cell id c3;replace c4:=hfw.cell id c4
   have hki:(k:Int) < (n:Int):=by omega
   have HNX:=hhd hnx;have HFD:=hhd hfd;have HFW:=hhd hfw;have HFR:=hhd hfr.out
   have key:(⟨zk,zb,zn,zs,zu⟩:Val)=⟨vk,vb,vn,vs,vu⟩∨((⟨zk,zb,zn,zs,zu⟩:Val)≠⟨vk,vb,vn,vs,vu⟩∧(zk≠vk∨(zk=vk∧zb≠vb)∨(zk=vk∧zb=vb∧zn≠vn)∨(zk=vk∧zb=vb∧zn=vn∧¬ zs.toList=vs.toList)∨(zk=vk∧zb=vb∧zn=vn∧zs=vs∧zu≠vu))):=by
    by_cases e:(⟨zk,zb,zn,zs,zu⟩:Val)=⟨vk,vb,vn,vs,vu⟩
    ·exact .inl e
    ·refine .inr ⟨e,?_⟩
     by_cases e1:zk=vk
     ·by_cases e2:zb=vb
      ·by_cases e3:zn=vn
       ·by_cases e4:zs=vs
        ·by_cases e5:zu=vu
         ·subst e1 e2 e3 e4 e5;exact absurd rfl e
         ·exact .inr (.inr (.inr (.inr ⟨e1,e2,e3,e4,e5⟩)))
        ·exact .inr (.inr (.inr (.inl ⟨e1,e2,e3,toList_inj e4⟩)))
       ·exact .inr (.inr (.inl ⟨e1,e2,e3⟩))
      ·exact .inr (.inl ⟨e1,e2⟩)
     ·exact .inl e1
   clear hy hnx hfd hn hfw hfr
   rcases key with e | ⟨hne,key⟩
   ·have hq:p ⟨vk,vb,vn,vs,vu⟩=true:=by rw[← HP.out];simp [eqVal,e]
    have hF:=HFD.out hq
    simp only [Val.mk.injEq] at e
    obtain⟨rfl,rfl,rfl,rfl,rfl⟩:=e
    clear HFD HNX hq
    subst hF
    go_wp2_with fail
    go_quiet (fail)
    go_wp2_with fail
    go_ret
    exact⟨rfl,HFW.out.drewN _⟩
   ·have hq:p ⟨vk,vb,vn,vs,vu⟩=false:=by rw[← HP.out];simp only [eqVal,decide_eq_false_iff_not];exact hne
    have hF:=hhd (HNX.out hq)
    clear HFD HNX hq hne
    rcases key with e | ⟨rfl,e⟩ | ⟨rfl,rfl,e⟩ | ⟨rfl,rfl,rfl,e⟩ | ⟨rfl,rfl,rfl,rfl,e⟩
    all_goals
     first | (have e'':=Ne.symm e) | (have e'':¬ vs.toList=zs.toList:=fun h=>e h.symm)
     go_wp2_with fail
     go_quiet (fail)
     go_wp2_with fail
     go_roundw
     case rel=>exact⟨k+1,by omega,by first | rfl | go_num,hF.out,HFR.out.drewN _⟩
     case measure=>simp [intOf] <;> omega
  ·obtain rfl:k=n:=by omega
   have hki:¬(k:Int) < (k:Int):=by omega
   have hF:=HNONE.out fun j h=>hn.out j h (by rw[← HN.out];exact h)
   have hfw:=hhd (HF.out.then0 hfr.out)
   clear hn hfr
   subst hF
   go_wp2_with fail
   go_ret
   exact⟨rfl,hfw.out⟩
end Go.Proofs.YtefepfiijoafbaaGreat
