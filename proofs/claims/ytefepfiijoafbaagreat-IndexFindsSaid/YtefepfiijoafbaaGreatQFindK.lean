/- FitF Fits Find FindK -/
import Derived.Deep.RegionLaw
import Derived.Test.YtefepfiijoafbaaGreatQFitB
import Derived.Test.YtefepfiijoafbaaGreatQValR
import Derived.Test.YtefepfiijoafbaaGreatQFitD
import Derived.Test.YtefepfiijoafbaaGreatQValO
import Derived.Test.YtefepfiijoafbaaGreatQEq4
set_option linter.unusedVariables false
set_option linter.unusedSimpArgs false
set_option maxRecDepth 100000
set_option maxHeartbeats 4000000
namespace Go.Proofs.YtefepfiijoafbaaGreat
section
open Go.RowKit Go.Shelf Go.Maps Go.Sort
attribute [local go_sem] Oper.semAt_some
attribute [local irreducible] wpQuiet
theorem ifits_9(w:World)(s:Sch)(back:Bool)(uv sv:Value)(vv:Value)
  (HM:Hid (∀ w',Fr N0 w w'→Calls Tryz.prog 38 #[.agg #[.int .u8 9,.string s.pred,.bool back,vv,uv,sv]] w' fun e w2=>e = .returned (.int .i64 0)∧Fr N0 w' w2))
  (HS:Hid (∀ w',Fr N0 w w'→Calls Tryz.prog 91 #[.agg s.enc.toArray] w' fun e w2=>e = .returned (.int .i64 0)∧Fr N0 w' w2)) :
  Calls Tryz.prog 39 #[.agg s.enc.toArray,.agg #[.int .u8 9,.string s.pred,.bool back,vv,uv,sv]] w fun e w'=>e = .returned (.int .i64 (fitR (s.ty == 2) s.order back (s.ty != 4) s.rev))∧Fr N0 w w':=by
 obtain⟨sp,st,sl,se,sm,so,sr,sc⟩:=s
 simp only [Sch.enc] at *
 obtain⟨n4,hn4⟩:∃ x,(st != 4)=x:=⟨_,rfl⟩
 rw[hn4]
 obtain⟨q,hq⟩:∃ x,(st == 2)=x:=⟨_,rfl⟩
 rw[hq]
 cases q
 ·clear hn4
  go_enter Tryz.func39,Tryz.ntmps39
  go_wp2_with (first
    |(go_at_call 38;refine(HM.out _ (((Fr.refl _ _).alloc _).alloc _)).mono ?_;rintro e w1 ⟨rfl,hf1⟩;obtain⟨b1,b2⟩:=two_boxes hf1;obtain⟨m1,n1,l1⟩:=box_cells b1;obtain⟨m2,n2,l2⟩:=box_cells b2;have hg1:=(((Fr.refl N0 w).alloc _).alloc _).then0 hf1)
    |(go_at_call 91;refine(HS.out _ hg1).mono ?_;rintro e w2 ⟨rfl,hf2⟩;obtain⟨b3,b4⟩:=two_boxes (hf1.then0 hf2);obtain⟨m3,n3,l3⟩:=box_cells b3;obtain⟨m4,n4,l4⟩:=box_cells b4))
  go_quiet (fail)
  go_wp2
  go_ret
  exact⟨by simp [fitR],by first | exact hg1.then0 hf2 | exact(hg1.then0 hf2).drewN _⟩
 cases so
 ·clear hn4
  go_enter Tryz.func39,Tryz.ntmps39
  go_wp2_with (first
    |(go_at_call 38;refine(HM.out _ (((Fr.refl _ _).alloc _).alloc _)).mono ?_;rintro e w1 ⟨rfl,hf1⟩;obtain⟨b1,b2⟩:=two_boxes hf1;obtain⟨m1,n1,l1⟩:=box_cells b1;obtain⟨m2,n2,l2⟩:=box_cells b2;have hg1:=(((Fr.refl N0 w).alloc _).alloc _).then0 hf1)
    |(go_at_call 91;refine(HS.out _ hg1).mono ?_;rintro e w2 ⟨rfl,hf2⟩;obtain⟨b3,b4⟩:=two_boxes (hf1.then0 hf2);obtain⟨m3,n3,l3⟩:=box_cells b3;obtain⟨m4,n4,l4⟩:=box_cells b4))
  go_quiet (fail)
  go_wp2
  go_ret
  exact⟨by simp [fitR],by first | exact hg1.then0 hf2 | exact(hg1.then0 hf2).drewN _⟩
 cases back
 ·clear hn4
  go_enter Tryz.func39,Tryz.ntmps39
  go_wp2_with (first
    |(go_at_call 38;refine(HM.out _ (((Fr.refl _ _).alloc _).alloc _)).mono ?_;rintro e w1 ⟨rfl,hf1⟩;obtain⟨b1,b2⟩:=two_boxes hf1;obtain⟨m1,n1,l1⟩:=box_cells b1;obtain⟨m2,n2,l2⟩:=box_cells b2;have hg1:=(((Fr.refl N0 w).alloc _).alloc _).then0 hf1)
    |(go_at_call 91;refine(HS.out _ hg1).mono ?_;rintro e w2 ⟨rfl,hf2⟩;obtain⟨b3,b4⟩:=two_boxes (hf1.then0 hf2);obtain⟨m3,n3,l3⟩:=box_cells b3;obtain⟨m4,n4,l4⟩:=box_cells b4))
  go_quiet (fail)
  go_wp2
  go_ret
  exact⟨by simp [fitR],by first | exact hg1.then0 hf2 | exact(hg1.then0 hf2).drewN _⟩
 cases n4
 ·cases sr
  all_goals
   go_enter Tryz.func39,Tryz.ntmps39
   go_wp2_with (first
     |(go_at_call 38;refine(HM.out _ (((Fr.refl _ _).alloc _).alloc _)).mono ?_;rintro e w1 ⟨rfl,hf1⟩;obtain⟨b1,b2⟩:=two_boxes hf1;obtain⟨m1,n1,l1⟩:=box_cells b1;obtain⟨m2,n2,l2⟩:=box_cells b2;have hg1:=(((Fr.refl N0 w).alloc _).alloc _).then0 hf1)
     |(go_at_call 91;refine(HS.out _ hg1).mono ?_;rintro e w2 ⟨rfl,hf2⟩;obtain⟨b3,b4⟩:=two_boxes (hf1.then0 hf2);obtain⟨m3,n3,l3⟩:=box_cells b3;obtain⟨m4,n4,l4⟩:=box_cells b4))
   go_quiet (fail)
   go_wp2
   go_ret
   exact⟨by simp [fitR],by first | exact hg1.then0 hf2 | exact(hg1.then0 hf2).drewN _⟩
 ·skip
  go_enter Tryz.func39,Tryz.ntmps39
  go_wp2_with (first
    |(go_at_call 38;refine(HM.out _ (((Fr.refl _ _).alloc _).alloc _)).mono ?_;rintro e w1 ⟨rfl,hf1⟩;obtain⟨b1,b2⟩:=two_boxes hf1;obtain⟨m1,n1,l1⟩:=box_cells b1;obtain⟨m2,n2,l2⟩:=box_cells b2;have hg1:=(((Fr.refl N0 w).alloc _).alloc _).then0 hf1)
    |(go_at_call 91;refine(HS.out _ hg1).mono ?_;rintro e w2 ⟨rfl,hf2⟩;obtain⟨b3,b4⟩:=two_boxes (hf1.then0 hf2);obtain⟨m3,n3,l3⟩:=box_cells b3;obtain⟨m4,n4,l4⟩:=box_cells b4))
  go_quiet (fail)
  go_wp2
  go_ret
  exact⟨by simp [fitR],by first | exact hg1.then0 hf2 | exact(hg1.then0 hf2).drewN _⟩
theorem ifits_10(w:World)(s:Sch)(back:Bool)(uv sv:Value)(vv:Value)
  (HM:Hid (∀ w',Fr N0 w w'→Calls Tryz.prog 38 #[.agg #[.int .u8 10,.string s.pred,.bool back,vv,uv,sv]] w' fun e w2=>e = .returned (.int .i64 0)∧Fr N0 w' w2))
  (HS:Hid (∀ w',Fr N0 w w'→Calls Tryz.prog 91 #[.agg s.enc.toArray] w' fun e w2=>e = .returned (.int .i64 0)∧Fr N0 w' w2)) :
  Calls Tryz.prog 39 #[.agg s.enc.toArray,.agg #[.int .u8 10,.string s.pred,.bool back,vv,uv,sv]] w fun e w'=>e = .returned (.int .i64 (fitR (s.ty == 2) s.order back (s.ty != 4) s.rev))∧Fr N0 w w':=by
 obtain⟨sp,st,sl,se,sm,so,sr,sc⟩:=s
 simp only [Sch.enc] at *
 obtain⟨n4,hn4⟩:∃ x,(st != 4)=x:=⟨_,rfl⟩
 rw[hn4]
 obtain⟨q,hq⟩:∃ x,(st == 2)=x:=⟨_,rfl⟩
 rw[hq]
 cases q
 ·clear hn4
  go_enter Tryz.func39,Tryz.ntmps39
  go_wp2_with (first
    |(go_at_call 38;refine(HM.out _ (((Fr.refl _ _).alloc _).alloc _)).mono ?_;rintro e w1 ⟨rfl,hf1⟩;obtain⟨b1,b2⟩:=two_boxes hf1;obtain⟨m1,n1,l1⟩:=box_cells b1;obtain⟨m2,n2,l2⟩:=box_cells b2;have hg1:=(((Fr.refl N0 w).alloc _).alloc _).then0 hf1)
    |(go_at_call 91;refine(HS.out _ hg1).mono ?_;rintro e w2 ⟨rfl,hf2⟩;obtain⟨b3,b4⟩:=two_boxes (hf1.then0 hf2);obtain⟨m3,n3,l3⟩:=box_cells b3;obtain⟨m4,n4,l4⟩:=box_cells b4))
  go_quiet (fail)
  go_wp2
  go_ret
  exact⟨by simp [fitR],by first | exact hg1.then0 hf2 | exact(hg1.then0 hf2).drewN _⟩
 cases so
 ·clear hn4
  go_enter Tryz.func39,Tryz.ntmps39
  go_wp2_with (first
    |(go_at_call 38;refine(HM.out _ (((Fr.refl _ _).alloc _).alloc _)).mono ?_;rintro e w1 ⟨rfl,hf1⟩;obtain⟨b1,b2⟩:=two_boxes hf1;obtain⟨m1,n1,l1⟩:=box_cells b1;obtain⟨m2,n2,l2⟩:=box_cells b2;have hg1:=(((Fr.refl N0 w).alloc _).alloc _).then0 hf1)
    |(go_at_call 91;refine(HS.out _ hg1).mono ?_;rintro e w2 ⟨rfl,hf2⟩;obtain⟨b3,b4⟩:=two_boxes (hf1.then0 hf2);obtain⟨m3,n3,l3⟩:=box_cells b3;obtain⟨m4,n4,l4⟩:=box_cells b4))
  go_quiet (fail)
  go_wp2
  go_ret
  exact⟨by simp [fitR],by first | exact hg1.then0 hf2 | exact(hg1.then0 hf2).drewN _⟩
 cases back
 ·clear hn4
  go_enter Tryz.func39,Tryz.ntmps39
  go_wp2_with (first
    |(go_at_call 38;refine(HM.out _ (((Fr.refl _ _).alloc _).alloc _)).mono ?_;rintro e w1 ⟨rfl,hf1⟩;obtain⟨b1,b2⟩:=two_boxes hf1;obtain⟨m1,n1,l1⟩:=box_cells b1;obtain⟨m2,n2,l2⟩:=box_cells b2;have hg1:=(((Fr.refl N0 w).alloc _).alloc _).then0 hf1)
    |(go_at_call 91;refine(HS.out _ hg1).mono ?_;rintro e w2 ⟨rfl,hf2⟩;obtain⟨b3,b4⟩:=two_boxes (hf1.then0 hf2);obtain⟨m3,n3,l3⟩:=box_cells b3;obtain⟨m4,n4,l4⟩:=box_cells b4))
  go_quiet (fail)
  go_wp2
  go_ret
  exact⟨by simp [fitR],by first | exact hg1.then0 hf2 | exact(hg1.then0 hf2).drewN _⟩
 cases n4
 ·cases sr
  all_goals
   go_enter Tryz.func39,Tryz.ntmps39
   go_wp2_with (first
     |(go_at_call 38;refine(HM.out _ (((Fr.refl _ _).alloc _).alloc _)).mono ?_;rintro e w1 ⟨rfl,hf1⟩;obtain⟨b1,b2⟩:=two_boxes hf1;obtain⟨m1,n1,l1⟩:=box_cells b1;obtain⟨m2,n2,l2⟩:=box_cells b2;have hg1:=(((Fr.refl N0 w).alloc _).alloc _).then0 hf1)
     |(go_at_call 91;refine(HS.out _ hg1).mono ?_;rintro e w2 ⟨rfl,hf2⟩;obtain⟨b3,b4⟩:=two_boxes (hf1.then0 hf2);obtain⟨m3,n3,l3⟩:=box_cells b3;obtain⟨m4,n4,l4⟩:=box_cells b4))
   go_quiet (fail)
   go_wp2
   go_ret
   exact⟨by simp [fitR],by first | exact hg1.then0 hf2 | exact(hg1.then0 hf2).drewN _⟩
 ·skip
  go_enter Tryz.func39,Tryz.ntmps39
  go_wp2_with (first
    |(go_at_call 38;refine(HM.out _ (((Fr.refl _ _).alloc _).alloc _)).mono ?_;rintro e w1 ⟨rfl,hf1⟩;obtain⟨b1,b2⟩:=two_boxes hf1;obtain⟨m1,n1,l1⟩:=box_cells b1;obtain⟨m2,n2,l2⟩:=box_cells b2;have hg1:=(((Fr.refl N0 w).alloc _).alloc _).then0 hf1)
    |(go_at_call 91;refine(HS.out _ hg1).mono ?_;rintro e w2 ⟨rfl,hf2⟩;obtain⟨b3,b4⟩:=two_boxes (hf1.then0 hf2);obtain⟨m3,n3,l3⟩:=box_cells b3;obtain⟨m4,n4,l4⟩:=box_cells b4))
  go_quiet (fail)
  go_wp2
  go_ret
  exact⟨by simp [fitR],by first | exact hg1.then0 hf2 | exact(hg1.then0 hf2).drewN _⟩
theorem mayR_zero{P U S plain back V:Bool}(h:mayR P U S plain back V=0):V=true:=by
 revert h;unfold mayR;cases V <;> simp
theorem valsR_kind{kd:Int}{n:Nat}{A:Int→Bool}(h:valsR kd n A=true):kd=2∨(kd=3∧0 < n)∨kd=4∨kd=5∨kd=6∨kd=7∨kd=8∨kd=9∨kd=10∨kd=11:=by
 by_cases k2:kd=2
 ·exact .inl k2
 by_cases k3:kd=3
 ·subst k3
  unfold valsR at h
  simp at h
  exact .inr (.inl ⟨rfl,h.1.1⟩)
 unfold valsR at h
 rw[if_neg k2,if_neg k3] at h
 by_cases k4:kd=4
 ·simp [k4]
 by_cases k5:kd=5
 ·simp [k5]
 by_cases k6:kd=6
 ·simp [k6]
 by_cases k7:kd=7
 ·simp [k7]
 by_cases k8:kd=8
 ·simp [k8]
 by_cases k9:kd=9
 ·simp [k9]
 by_cases k10:kd=10
 ·simp [k10]
 by_cases k11:kd=11
 ·simp [k11]
 simp [k4,k5,k6,k7,k8,k9,k10,k11] at h
theorem fnMay_kind{f:Fn}(h:fnMay f=0):f.kind=2∨(f.kind=3∧0 < f.vals.length)∨f.kind=4∨f.kind=5∨f.kind=6∨f.kind=7∨f.kind=8∨f.kind=9∨f.kind=10∨f.kind=11:=valsR_kind (mayR_zero h)
theorem ifits_any(w:World)(s:Sch)(f:Fn)(vv uv sv:Value)(b:Nat)(h:FnAt w b f vv uv sv) :
  Calls Tryz.prog 39 #[.agg s.enc.toArray,.agg (f.enc vv uv sv)] w fun e w'=>e = .returned (.int .i64 (fnFits s f))∧Fr N0 w w':=by
 have hp:=fit_pre (s:=s) h
 by_cases d1:fnMay f≠0
 ·exact ifits_no w s f vv uv sv hp (.inl d1)
 by_cases d2:schMay s≠0
 ·exact ifits_no w s f vv uv sv hp (.inr (.inl d2))
 by_cases d3:s.pred≠f.pred
 ·exact ifits_no w s f vv uv sv hp (.inr (.inr d3))
 have c1:fnMay f=0:=Classical.not_not.1 d1
 have c2:schMay s=0:=Classical.not_not.1 d2
 have c3:s.pred=f.pred:=Classical.not_not.1 d3
 have hk:=fnMay_kind c1
 have e:fnFits s f=fitR (fitOk s f) (fitIx s f) f.back (s.ty != 4) s.rev:=by
  unfold fnFits;rw[if_neg (by simpa using c1),if_neg (by simpa using c2),if_neg (by simpa using c3)]
 have hv:=h.vals
 have hm:=hp.may;have hs:=hp.sch
 rw[c1] at hm;rw[c2] at hs
 rw[e]
 clear e c1 c2 h hp
 obtain⟨kd,pred,back,vals,nu,ns⟩:=f
 subst c3
 simp only [Fn.enc] at *
 rcases hk with rfl | ⟨rfl,h0⟩ | rfl | rfl | rfl | rfl | rfl | rfl | rfl | rfl
 ·exact ifits_2 w s back uv sv vv (hhd hm) (hhd hs)
 ·obtain⟨a,off,cap,rfl,-,-,k3,-,k5⟩:=hv
  obtain rfl:=k3 h0
  have hc:=k5 0 h0 0 (by decide)
  have e0:vals[0]?=some vals[0]:=List.getElem?_eq_getElem h0
  have he:fitOk s ⟨3,s.pred,back,vals,nu,ns⟩=(s.ty == vals[0].k):=by simp [fitOk,e0]
  rw[he]
  exact ifits_3 w s back uv sv b off vals.length cap vals[0].k (by simpa [Val.enc] using hc) h0 (hhd hm) (hhd hs)
 ·exact ifits_4 w s back uv sv vv (hhd hm) (hhd hs)
 ·exact ifits_5 w s back uv sv vv (hhd hm) (hhd hs)
 ·exact ifits_6 w s back uv sv vv (hhd hm) (hhd hs)
 ·exact ifits_7 w s back uv sv vv (hhd hm) (hhd hs)
 ·exact ifits_8 w s back uv sv vv (hhd hm) (hhd hs)
 ·exact ifits_9 w s back uv sv vv (hhd hm) (hhd hs)
 ·exact ifits_10 w s back uv sv vv (hhd hm) (hhd hs)
 ·exact ifits_11 w s back uv sv vv (hhd hm) (hhd hs)
end
section
open Go.RowKit Go.Shelf Go.Maps
attribute [local go_sem] Oper.semAt_some
attribute [local irreducible] wpQuiet
theorem field_sch(a b c d e f g h:Value)(W:World):(Instr.field 32 (.agg #[a,b,c,d,e,f,g,h]) 0).run Tryz.prog W = .ok a W:=by kernel_rfl
def FindPost(W:World)(E:Int)(mk:Prop)(P:Int→Prop)(e:Ending)(w':World):Prop:=
 (E≠0→e = .returned (.tuple #[.slice none 0 0,.int .i64 E])∧Fr N0 W w') ∧
 (E=0→mk→e = .returned (.tuple #[.slice none 0 0,.int .i64 181])∧Fr N0 W w') ∧
 (E=0→¬ mk→∃ v,e = .returned (.tuple #[v,.int .i64 0])∧NewInts W P (.returned v) w')
theorem ifind_core(W:World)(R:Nat→Prop)(p:Nat)(l:PL)(N:Nat)(h:IsPL W R p l)(hR:∀ k,R k→k < W.heap.size)(hl:l.AtOk N)(hN:N≤8000000000)(t:Int)(ks:List Int)(hks:NodesOf (haveAt l t) ks)(fn:Fn)(vv uv sv:Value)(b:Nat)(hf:FnAt W b fn vv uv sv)(gf:FuncId)(P:Int→Prop)
  (hkd:(Lit.int .u8 fn.kind).wf=true) (eg:∀ args w,(callFunc gf args).run Tryz.prog w = .ok (.enter gf args) w)
  (hC:fnFits l.s fn=0→∀ w3 bm F,Fr N0 W w3→Finders w3 bm F→∃ lb,F (litK fn.kind)=some (.func (.func gf) #[] lb)∧∀ w4 lo px bn bb,Fr N0 w3 w4→LookAt w4 lo px bn bb N (haveAt l t) (lookB (trsOf (haveAt l t) ks)) →
   Calls Tryz.prog gf (#[.pointer (some ⟨px,0,none⟩),.agg (fn.enc vv uv sv)] ++ lb) w4 (NewInts w4 P)) :
  Calls Tryz.prog 41 #[.pointer (some ⟨p,0,none⟩),.agg (fn.enc vv uv sv),.int .u64 t] W (FindPost W (fnFits l.s fn) (t < l.marked) P):=by
 have hsc:=fun w1 (hw:Fr N0 W w1)=>schema_any w1 R p l (h.fr hw fun _ _=>id) hl.pred
 have hmk:=fun w1 (hw:Fr N0 W w1)=>marked_any w1 R p l (h.fr hw fun _ _=>id) hl.pred
 have hia:=fun w1 (hw:Fr N0 W w1)=>(iat_any w1 R p l N (h.fr hw fun _ _=>id) (fun k hk=>Nat.lt_of_lt_of_le (hR k hk) hw.size) hl hN t ks hks)
 have hft:=fun w1 (hw:Fr N0 W w1)=>ifits_any w1 l.s fn vv uv sv b (hf.fr hw)
 have hpr:0 < l.s.pred.size:=hl.pred
 obtain⟨H,hH⟩:∃ H,haveAt l t=H:=⟨_,rfl⟩
 obtain⟨B,hB⟩:∃ B,lookB (trsOf H ks)=B:=⟨_,rfl⟩
 simp only [hH,hB] at hia hC
 have hpost:∀ e w',FindPost W (fnFits l.s fn) (t < l.marked) P e w'→FindPost W (fnFits l.s fn) (t < l.marked) P e w':=fun _ _ h=>h
 obtain⟨E,hE⟩:∃ E,fnFits l.s fn=E:=⟨_,rfl⟩
 rw[hE] at hpost ⊢
 simp only [hE] at hft hC
 obtain⟨Q,hQ⟩:∃ Q,FindPost W E (t < l.marked) P=Q:=⟨_,rfl⟩
 rw[hQ] at hpost ⊢
 have hq:∀ e w',FindPost W E (t < l.marked) P e w'→Q e w':=fun e w' h=>by rw[← hQ];exact h
 obtain⟨mk,hmk0⟩:∃ mk,l.marked=mk:=⟨_,rfl⟩
 obtain⟨S,hS⟩:∃ S,l.s=S:=⟨_,rfl⟩
 simp only [hmk0,hS] at hsc hmk hft hpr hq
 have HSC:=hhd hsc;have HMK:=hhd hmk;have HIA:=hhd hia;have HFT:=hhd hft;have HC:=hhd hC;have HQ:=hhd hq;have HKD:=hhd hkd
 clear hsc hmk hia hft hC hq h hR hl hks hf hpost hQ hE hH hB hmk0 hS hkd
 obtain⟨kd,pred,back,vals,nu,ns⟩:=fn
 obtain⟨sp,st,sl,se,sm,so,sr,sc⟩:=S
 simp only [Fn.enc,Sch.enc] at *
 have h1:¬ sp.toList = []:=by
  intro h
  have:sp.toList.length=0:=by rw[h];rfl
  rw[ByteArray.toList_eq,Array.length_toList] at this
  have e:sp.data.size=sp.size:=rfl
  have hpr':0 < sp.size:=hpr
  omega
 have h2:(!sp.toList.isEmpty)=true:=by simpa using h1
 have h3:sp.toList.isEmpty=false:=by simpa using h1
 have hfs:=field_sch
 clear hpr
 go_enter Tryz.func41,Tryz.ntmps41
 go_wp2_with (go_at_call 81;refine(HSC.out _ ((Fr.refl N0 W).alloc _)).mono ?_;rintro e w1 ⟨rfl,hf1⟩;have hb1:=(hf1.at (k:=W.heap.size) id (by simp)).trans (World.alloc_heap_new W _);have hfw1:=((Fr.refl N0 W).alloc _).then0 hf1)
 have hbx:BoxB W.heap.size #[.int .u8 kd,.string pred,.bool back,vv,uv,sv] w1:=⟨(box_cells hb1).1,(box_cells hb1).2.2⟩
 have HB1:=hhd hbx;have HFW:=hhd hfw1
 clear hb1 hbx hfw1 hf1 h1 h2 h3
 rename_i Ka hKa Kb hKb
 refine wp_frA _ rfl ?_
 refine fdR3 (K:=Kb) w1 _ p W.heap.size ⟨sp,st,sl,se,sm,so,sr,sc⟩ kd pred back vv uv sv E rfl rfl HB1.out (fun W' hw=>HSC.out W' (HFW.out.then0 hw)) (fun W' hw=>HFT.out W' (HFW.out.then0 hw)) fun f W3 e0 e2 e4 e8 hf3=>?_
 refine hKb _ _ ?_
 replace e0:f 0 = .pointer (some ⟨p,0,none⟩):=e0
 replace e2:f 2 = .int .u64 t:=e2
 replace e4:f 4 = .pointer (some ⟨W.heap.size,0,none⟩):=e4
 have HB3:=hhd (boxB_keep hf3 id HB1.out)
 have HF3:=hhd (HFW.out.then0 hf3)
 clear hf3 HB1 HFW hKb
 show Code.wp _ _ _ { tmps:=#[f 0,f 1,f 2,f 3,f 4,f 5,f 6,f 7,f 8,f 9,f 10,f 11,f 12,f 13,f 14,f 15,f 16,f 17,f 18,f 19,f 20,f 21,f 22,f 23,f 24,f 25,f 26,f 27,f 28,f 29,f 30,f 31,f 32],defers:=[] } _
 rw[e0,e2,e4,e8]
 clear e0 e2 e4 e8
 by_cases c1:E=0
 ·subst c1
  by_cases c2:t < mk
  ·go_wp2_with (first | refine hKa _ _ ?_ | (go_at_call 82;refine(HMK.out _ HF3.out).mono ?_;rintro e w4 ⟨rfl,hf4⟩))
   exact HQ.out _ _ ⟨fun h=>absurd rfl h,fun _ _=>⟨rfl,HF3.out.then0 hf4⟩,fun _ h=>absurd c2 h⟩
  ·have c2':¬ t < mk:=c2
   go_wp2_with (first | refine hKa _ _ ?_ | (go_at_call 82;refine(HMK.out _ HF3.out).mono ?_;rintro e w4 ⟨rfl,hf4⟩))
   have HB4:=hhd (boxB_keep hf4 id HB3.out)
   have HF4:=hhd (HF3.out.then0 hf4)
   rename_i Kc hKc
   refine wp_frA _ rfl ?_
   refine fdR8 (K:=Kc) w4 _ p W.heap.size t kd pred back vv uv sv (fun px w=>∃ lo bn bb,LookAt w lo px bn bb N H B) (fun v w'=>NewInts W P (.returned v) w') gf HKD.out eg rfl rfl rfl HB4.out (fun W' hw=>(HIA.out W' (HF4.out.then0 hw)).mono fun e w' hh=>by obtain⟨px,bn,bb,h1,h2,h3⟩:=hh;exact⟨px,h1,⟨_,bn,bb,h2⟩,h3⟩)
    (fun w3 bm F hw hfd=>?_) fun f' W' v e6 e7 hp=>?_
   ·obtain⟨lb,hF,hc⟩:=HC.out (by trivial) w3 bm F (HF4.out.then0 hw) hfd
    refine⟨lb,hF,fun w4 px h34 hl=>?_⟩
    obtain⟨lo,bn,bb,hl⟩:=hl
    refine(hc w4 lo px bn bb h34 hl).mono fun e w' hh=>?_
    obtain⟨v,xs,r1,r2,r3,r4,r5⟩:=hh
    exact⟨v,r1,NewInts.from ⟨v,xs,rfl,r2,r3,r4,r5⟩ ((HF4.out.then0 hw).then0 h34),r5⟩
   ·refine hKc _ _ ?_
    refine wp_ret ?_
    exact bodyPost_ret (v:=.tuple #[v,.int .i64 0]) (by simp [results,frA,Tryz.results41,go_sem,e6,e7]) rfl (HQ.out _ _ ⟨fun h=>absurd rfl h,fun _ h=>absurd h (by omega),fun _ _=>⟨v,rfl,hp⟩⟩)
 ·have hE1:(E != 0)=true:=by simpa using c1
  go_wp2
  exact HQ.out _ _ ⟨fun _=>⟨rfl,HF3.out⟩,fun h=>absurd h c1,fun h=>absurd h c1⟩
end
section
open Go.RowKit Go.Shelf Go.Maps
attribute [local irreducible] wpQuiet
theorem enters_fHas:∀ args w,(callFunc 161 args).run Tryz.prog w = .ok (.enter 161 args) w:=enters_of Tryz.func161 (by kernel_rfl) rfl
theorem enters_fCnt:∀ args w,(callFunc 163 args).run Tryz.prog w = .ok (.enter 163 args) w:=enters_of Tryz.func163 (by kernel_rfl) rfl
theorem enters_fEq:∀ args w,(callFunc 164 args).run Tryz.prog w = .ok (.enter 164 args) w:=enters_of Tryz.func164 (by kernel_rfl) rfl
theorem enters_fBtw:∀ args w,(callFunc 175 args).run Tryz.prog w = .ok (.enter 175 args) w:=enters_of Tryz.func175 (by kernel_rfl) rfl
theorem enters_fCmp1:∀ args w,(callFunc 158 args).run Tryz.prog w = .ok (.enter 158 args) w:=enters_of Tryz.func158 (by kernel_rfl) rfl
structure FindPre(W:World)(R:Nat→Prop)(p:Nat)(l:PL)(N:Nat)(t:Int)(ks:List Int)(fn:Fn)(vv uv sv:Value)(b:Nat):Prop where
 pl:IsPL W R p l
 lt:∀ k,R k→k < W.heap.size
 ok:l.AtOk N
 n:N≤8000000000
 ks:NodesOf (haveAt l t) ks
 fn:FnAt W b fn vv uv sv
section
variable {W:World} {R:Nat→Prop} {p:Nat} {l:PL} {N:Nat} {t:Int} {ks:List Int} {fn:Fn} {vv uv sv:Value} {b:Nat}
theorem FindPre.core(h:FindPre W R p l N t ks fn vv uv sv b)(gf:FuncId)(P:Int→Prop)(hkd:(Lit.int .u8 fn.kind).wf=true)(eg:∀ args w,(callFunc gf args).run Tryz.prog w = .ok (.enter gf args) w)
  (hC:fnFits l.s fn=0→∀ w3 bm F,Fr N0 W w3→Finders w3 bm F→∃ lb,F (litK fn.kind)=some (.func (.func gf) #[] lb)∧∀ w4 lo px bn bb,Fr N0 w3 w4→LookAt w4 lo px bn bb N (haveAt l t) (lookB (trsOf (haveAt l t) ks)) →
   Calls Tryz.prog gf (#[.pointer (some ⟨px,0,none⟩),.agg (fn.enc vv uv sv)] ++ lb) w4 (NewInts w4 P)) :
  Calls Tryz.prog 41 #[.pointer (some ⟨p,0,none⟩),.agg (fn.enc vv uv sv),.int .u64 t] W (FindPost W (fnFits l.s fn) (t < l.marked) P):=
 ifind_core W R p l N h.pl h.lt h.ok h.n t ks h.ks fn vv uv sv b h.fn gf P hkd eg hC
theorem ifind_no(h:FindPre W R p l N t ks fn vv uv sv b)(hkd:(Lit.int .u8 fn.kind).wf=true)(hno:fnFits l.s fn≠0) :
  Calls Tryz.prog 41 #[.pointer (some ⟨p,0,none⟩),.agg (fn.enc vv uv sv),.int .u64 t] W fun e w'=>e = .returned (.tuple #[.slice none 0 0,.int .i64 (fnFits l.s fn)])∧Fr N0 W w':=
 (h.core 161 (fun _=>False) hkd enters_fHas fun h0=>absurd h0 hno).mono fun e w' hp=>hp.1 hno
theorem ifind_has(h:FindPre W R p l N t ks fn vv uv sv b)(hk:fn.kind=2) :
  Calls Tryz.prog 41 #[.pointer (some ⟨p,0,none⟩),.agg (fn.enc vv uv sv),.int .u64 t] W (FindPost W (fnFits l.s fn) (t < l.marked) (hasP (haveAt l t) (lookB (trsOf (haveAt l t) ks)) fn.back (-1))):=
 h.core 161 _ (by rw[hk];decide) enters_fHas fun _ w3 bm F hw hfd=>⟨#[],by rw[hk];exact hfd.has,fun w4 lo px bn bb h34 hl=>by
  simpa using fHas_any w4 lo px bn bb N _ _ hl (by have:=h.n;omega) fn vv uv sv⟩
theorem ifind_cnt(h:FindPre W R p l N t ks fn vv uv sv b)(hk:fn.kind=11)(v0:Val)(hv:fn.vals[0]?=some v0) :
  Calls Tryz.prog 41 #[.pointer (some ⟨p,0,none⟩),.agg (fn.enc vv uv sv),.int .u64 t] W (FindPost W (fnFits l.s fn) (t < l.marked) fun u=>1≤v0.n∧hasP (haveAt l t) (lookB (trsOf (haveAt l t) ks)) fn.back v0.n u):=
 h.core 163 _ (by rw[hk];decide) enters_fCnt fun _ w3 bm F hw hfd=>⟨#[],by rw[hk];exact hfd.cnt,fun w4 lo px bn bb h34 hl=>by
  simpa using fCnt_any w4 lo px bn bb N _ _ hl (by have:=h.n;omega) fn vv uv sv b (h.fn.fr (hw.then0 h34)) v0 hv⟩
theorem ifind_eq(h:FindPre W R p l N t ks fn vv uv sv b)(hk:fn.kind=3) :
  Calls Tryz.prog 41 #[.pointer (some ⟨p,0,none⟩),.agg (fn.enc vv uv sv),.int .u64 t] W (FindPost W (fnFits l.s fn) (t < l.marked) (anyP (haveAt l t) fun x=>fn.vals.any (eqVal x))):=
 h.core 164 _ (by rw[hk];decide) enters_fEq fun _ w3 bm F hw hfd=>⟨#[],by rw[hk];exact hfd.eq,fun w4 lo px bn bb h34 hl=>by
  simpa using fEq_any w4 lo px bn bb N _ _ hl (haveAt_ok h.ok t) (by have:=h.n;omega) fn vv uv sv b (h.fn.fr (hw.then0 h34))⟩
theorem ifind_btw(h:FindPre W R p l N t ks fn vv uv sv b)(hk:fn.kind=10)(v0 v1:Val)(hv:fn.vals[0]?=some v0)(hv1:fn.vals[1]?=some v1) :
  Calls Tryz.prog 41 #[.pointer (some ⟨p,0,none⟩),.agg (fn.enc vv uv sv),.int .u64 t] W (FindPost W (fnFits l.s fn) (t < l.marked) (anyP (haveAt l t) (btwP v0 v1))):=
 h.core 175 _ (by rw[hk];decide) enters_fBtw fun _ w3 bm F hw hfd=>⟨#[],by rw[hk];exact hfd.btw,fun w4 lo px bn bb h34 hl=>by
  simpa using fBtw_any w4 lo px bn bb N _ _ hl (haveAt_ok h.ok t) (by have:=h.n;omega) fn vv uv sv b (h.fn.fr (hw.then0 h34)) v0 v1 hv hv1⟩
theorem ifind_cmp(h:FindPre W R p l N t ks fn vv uv sv b)(v0:Val)(hv:fn.vals[0]?=some v0)(gf:FuncId)(c:Int→Int→Bool)(hg:∀ a b W,Calls Tryz.prog gf #[.int .i64 a,.int .i64 b] W fun e w'=>e = .returned (.bool (c a b))∧w'=W)
  (eg:∀ args w,(callFunc gf args).run Tryz.prog w = .ok (.enter gf args) w) (hk:(fn.kind,gf) ∈ [((6:Int),171),(7,172),(8,173),(9,174)]) :
  Calls Tryz.prog 41 #[.pointer (some ⟨p,0,none⟩),.agg (fn.enc vv uv sv),.int .u64 t] W (FindPost W (fnFits l.s fn) (t < l.marked) (anyP (haveAt l t) (cmpP c v0))):=
 h.core 158 _ (by
  simp only [List.mem_cons,Prod.mk.injEq,List.not_mem_nil,or_false] at hk
  rcases hk with⟨e,-⟩ | ⟨e,-⟩ | ⟨e,-⟩ | ⟨e,-⟩ <;> rw[e] <;> decide) enters_fCmp1 fun _ w3 bm F hw hfd=>by
  obtain⟨bc,h1,h2⟩:=hfd.cmp _ _ hk
  exact⟨_,h1,fun w4 lo px bn bb h34 hl=>by
   simpa using fCmp1_any w4 lo px bn bb N bc _ _ hl (haveAt_ok h.ok t) (by have:=h.n;omega) fn vv uv sv b (h.fn.fr (hw.then0 h34)) v0 hv gf c hg eg ((h34.at id (lt_of_block h2)).trans h2)⟩
end
end
end Go.Proofs.YtefepfiijoafbaaGreat
