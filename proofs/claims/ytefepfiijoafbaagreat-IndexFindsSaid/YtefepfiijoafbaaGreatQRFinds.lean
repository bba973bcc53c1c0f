/- RFits RFinds -/
import Derived.Deep.QuietTactic
import Derived.Test.YtefepfiijoafbaaGreatQRMay
import Derived.Test.YtefepfiijoafbaaGreatQFitB
import Derived.Test.YtefepfiijoafbaaGreatQROne
set_option linter.unusedVariables false
set_option linter.unusedSimpArgs false
set_option maxRecDepth 100000
set_option maxHeartbeats 4000000
namespace Go.Proofs.YtefepfiijoafbaaGreat
section
open Go.RowKit Go.Shelf Go.Maps Go.Sort
attribute [local go_sem] Oper.semAt_some
attribute [local irreducible] wpQuiet
section
variable (w:World) (s:Sch) (vv uv sv:Value)
theorem rfits_3(b off n c:Nat)(y:Int)(hn:0 < n)(hz:w.cell? ⟨b,off,none⟩=some (.int .u8 y))
  (HM:Hid (∀ w',Fr N0 w w'→Calls Tryz.prog 37 #[.agg #[.int .u8 3,.string s.pred,.bool false,.slice (some ⟨b,off,none⟩) n c,uv,sv]] w' fun e w2=>e = .returned (.bool true)∧Fr N0 w' w2))
  (HS:Hid (∀ w',Fr N0 w w'→Calls Tryz.prog 107 #[.agg s.enc.toArray] w' fun e w2=>e = .returned (.int .i64 0)∧Fr N0 w' w2)) :
  Calls Tryz.prog 40 #[.agg s.enc.toArray,.agg #[.int .u8 3,.string s.pred,.bool false,.slice (some ⟨b,off,none⟩) n c,uv,sv]] w fun e w'=>e = .returned (.int .i64 (fitR (s.ty == y) s.exact_ false (s.ty != 4) s.rev))∧Fr N0 w w':=by
 obtain⟨sp,st,sl,se,sm,so,sr,sc⟩:=s
 simp only [Sch.enc] at *
 obtain⟨q,hq⟩:∃ x,(st == y)=x:=⟨_,rfl⟩
 have hq':(st != y) = !q:=by rw[← hq];rfl
 have hn0:(0:Int) < (n:Int):=by omega
 rw[hq]
 cases q
 ·simp only [Bool.not_false] at hq'
  go_enter Tryz.func40,Tryz.ntmps40
  go_wp2_with fail
  refine(HM.out _ (((Fr.refl _ _).alloc _).alloc _)).mono ?_
  rintro e w1 ⟨rfl,hf1⟩
  obtain⟨b1,b2⟩:=two_boxes hf1
  obtain⟨m1,n1,l1⟩:=box_cells b1
  obtain⟨m2,n2,l2⟩:=box_cells b2
  have hg1:=(((Fr.refl N0 w).alloc _).alloc _).then0 hf1
  go_wp2_with fail
  refine(HS.out _ hg1).mono ?_
  rintro e w2 ⟨rfl,hf2⟩
  obtain⟨b3,b4⟩:=two_boxes (hf1.then0 hf2)
  obtain⟨m3,n3,l3⟩:=box_cells b3
  obtain⟨m4,n4,l4⟩:=box_cells b4
  have hg2:=hg1.then0 hf2
  have hz2:=hg2.cell id hz
  clear m1 n1 l1 m2 n2 l2
  go_wp2_with fail
  go_quiet (fail)
  go_wp2_with fail
  go_ret
  exact⟨by simp [fitR],hg2.drewN _⟩
 ·simp only [Bool.not_true] at hq'
  cases se
  all_goals
   go_enter Tryz.func40,Tryz.ntmps40
   go_wp2_with fail
   refine(HM.out _ (((Fr.refl _ _).alloc _).alloc _)).mono ?_
   rintro e w1 ⟨rfl,hf1⟩
   obtain⟨b1,b2⟩:=two_boxes hf1
   obtain⟨m1,n1,l1⟩:=box_cells b1
   obtain⟨m2,n2,l2⟩:=box_cells b2
   have hg1:=(((Fr.refl N0 w).alloc _).alloc _).then0 hf1
   go_wp2_with fail
   refine(HS.out _ hg1).mono ?_
   rintro e w2 ⟨rfl,hf2⟩
   obtain⟨b3,b4⟩:=two_boxes (hf1.then0 hf2)
   obtain⟨m3,n3,l3⟩:=box_cells b3
   obtain⟨m4,n4,l4⟩:=box_cells b4
   have hg2:=hg1.then0 hf2
   have hz2:=hg2.cell id hz
   clear m1 n1 l1 m2 n2 l2
   go_wp2_with fail
   go_quiet (fail)
   go_wp2_with fail
   go_ret
   exact⟨by simp [fitR],hg2.drewN _⟩
theorem rfits_4
  (HM:Hid (∀ w',Fr N0 w w'→Calls Tryz.prog 37 #[.agg #[.int .u8 4,.string s.pred,.bool false,vv,uv,sv]] w' fun e w2=>e = .returned (.bool true)∧Fr N0 w' w2))
  (HS:Hid (∀ w',Fr N0 w w'→Calls Tryz.prog 107 #[.agg s.enc.toArray] w' fun e w2=>e = .returned (.int .i64 0)∧Fr N0 w' w2)) :
  Calls Tryz.prog 40 #[.agg s.enc.toArray,.agg #[.int .u8 4,.string s.pred,.bool false,vv,uv,sv]] w fun e w'=>e = .returned (.int .i64 (fitR (s.ty == 3) s.term false (s.ty != 4) s.rev))∧Fr N0 w w':=by
 obtain⟨sp,st,sl,se,sm,so,sr,sc⟩:=s
 simp only [Sch.enc] at *
 obtain⟨n4,hn4⟩:∃ x,(st != 4)=x:=⟨_,rfl⟩
 have hn4':(st == 4) = !n4:=by rw[← hn4];cases h:(st == 4) <;> simp_all [bne]
 rw[hn4]
 clear hn4 hn4'
 obtain⟨q,hq⟩:∃ x,(st == 3)=x:=⟨_,rfl⟩
 have hq':(st != 3) = !q:=by rw[← hq];rfl
 rw[hq]
 cases q
 ·simp only [Bool.not_false] at hq'
  go_enter Tryz.func40,Tryz.ntmps40
  go_wp2_with fail
  refine(HM.out _ (((Fr.refl _ _).alloc _).alloc _)).mono ?_
  rintro e w1 ⟨rfl,hf1⟩
  obtain⟨b1,b2⟩:=two_boxes hf1
  obtain⟨m1,n1,l1⟩:=box_cells b1
  obtain⟨m2,n2,l2⟩:=box_cells b2
  have hg1:=(((Fr.refl N0 w).alloc _).alloc _).then0 hf1
  go_wp2_with fail
  refine(HS.out _ hg1).mono ?_
  rintro e w2 ⟨rfl,hf2⟩
  obtain⟨b3,b4⟩:=two_boxes (hf1.then0 hf2)
  obtain⟨m3,n3,l3⟩:=box_cells b3
  obtain⟨m4,n4,l4⟩:=box_cells b4
  have hg2:=hg1.then0 hf2
  clear m1 n1 l1 m2 n2 l2
  go_wp2_with fail
  go_ret
  exact⟨by simp [fitR],hg2⟩
 ·simp only [Bool.not_true] at hq'
  cases sm
  all_goals
   go_enter Tryz.func40,Tryz.ntmps40
   go_wp2_with fail
   refine(HM.out _ (((Fr.refl _ _).alloc _).alloc _)).mono ?_
   rintro e w1 ⟨rfl,hf1⟩
   obtain⟨b1,b2⟩:=two_boxes hf1
   obtain⟨m1,n1,l1⟩:=box_cells b1
   obtain⟨m2,n2,l2⟩:=box_cells b2
   have hg1:=(((Fr.refl N0 w).alloc _).alloc _).then0 hf1
   go_wp2_with fail
   refine(HS.out _ hg1).mono ?_
   rintro e w2 ⟨rfl,hf2⟩
   obtain⟨b3,b4⟩:=two_boxes (hf1.then0 hf2)
   obtain⟨m3,n3,l3⟩:=box_cells b3
   obtain⟨m4,n4,l4⟩:=box_cells b4
   have hg2:=hg1.then0 hf2
   clear m1 n1 l1 m2 n2 l2
   go_wp2_with fail
   go_ret
   exact⟨by simp [fitR],hg2⟩
theorem rfits_5
  (HM:Hid (∀ w',Fr N0 w w'→Calls Tryz.prog 37 #[.agg #[.int .u8 5,.string s.pred,.bool false,vv,uv,sv]] w' fun e w2=>e = .returned (.bool true)∧Fr N0 w' w2))
  (HS:Hid (∀ w',Fr N0 w w'→Calls Tryz.prog 107 #[.agg s.enc.toArray] w' fun e w2=>e = .returned (.int .i64 0)∧Fr N0 w' w2)) :
  Calls Tryz.prog 40 #[.agg s.enc.toArray,.agg #[.int .u8 5,.string s.pred,.bool false,vv,uv,sv]] w fun e w'=>e = .returned (.int .i64 (fitR (s.ty == 3) s.term false (s.ty != 4) s.rev))∧Fr N0 w w':=by
 obtain⟨sp,st,sl,se,sm,so,sr,sc⟩:=s
 simp only [Sch.enc] at *
 obtain⟨n4,hn4⟩:∃ x,(st != 4)=x:=⟨_,rfl⟩
 have hn4':(st == 4) = !n4:=by rw[← hn4];cases h:(st == 4) <;> simp_all [bne]
 rw[hn4]
 clear hn4 hn4'
 obtain⟨q,hq⟩:∃ x,(st == 3)=x:=⟨_,rfl⟩
 have hq':(st != 3) = !q:=by rw[← hq];rfl
 rw[hq]
 cases q
 ·simp only [Bool.not_false] at hq'
  go_enter Tryz.func40,Tryz.ntmps40
  go_wp2_with fail
  refine(HM.out _ (((Fr.refl _ _).alloc _).alloc _)).mono ?_
  rintro e w1 ⟨rfl,hf1⟩
  obtain⟨b1,b2⟩:=two_boxes hf1
  obtain⟨m1,n1,l1⟩:=box_cells b1
  obtain⟨m2,n2,l2⟩:=box_cells b2
  have hg1:=(((Fr.refl N0 w).alloc _).alloc _).then0 hf1
  go_wp2_with fail
  refine(HS.out _ hg1).mono ?_
  rintro e w2 ⟨rfl,hf2⟩
  obtain⟨b3,b4⟩:=two_boxes (hf1.then0 hf2)
  obtain⟨m3,n3,l3⟩:=box_cells b3
  obtain⟨m4,n4,l4⟩:=box_cells b4
  have hg2:=hg1.then0 hf2
  clear m1 n1 l1 m2 n2 l2
  go_wp2_with fail
  go_ret
  exact⟨by simp [fitR],hg2⟩
 ·simp only [Bool.not_true] at hq'
  cases sm
  all_goals
   go_enter Tryz.func40,Tryz.ntmps40
   go_wp2_with fail
   refine(HM.out _ (((Fr.refl _ _).alloc _).alloc _)).mono ?_
   rintro e w1 ⟨rfl,hf1⟩
   obtain⟨b1,b2⟩:=two_boxes hf1
   obtain⟨m1,n1,l1⟩:=box_cells b1
   obtain⟨m2,n2,l2⟩:=box_cells b2
   have hg1:=(((Fr.refl N0 w).alloc _).alloc _).then0 hf1
   go_wp2_with fail
   refine(HS.out _ hg1).mono ?_
   rintro e w2 ⟨rfl,hf2⟩
   obtain⟨b3,b4⟩:=two_boxes (hf1.then0 hf2)
   obtain⟨m3,n3,l3⟩:=box_cells b3
   obtain⟨m4,n4,l4⟩:=box_cells b4
   have hg2:=hg1.then0 hf2
   clear m1 n1 l1 m2 n2 l2
   go_wp2_with fail
   go_ret
   exact⟨by simp [fitR],hg2⟩
theorem rfits_6
  (HM:Hid (∀ w',Fr N0 w w'→Calls Tryz.prog 37 #[.agg #[.int .u8 6,.string s.pred,.bool false,vv,uv,sv]] w' fun e w2=>e = .returned (.bool true)∧Fr N0 w' w2))
  (HS:Hid (∀ w',Fr N0 w w'→Calls Tryz.prog 107 #[.agg s.enc.toArray] w' fun e w2=>e = .returned (.int .i64 0)∧Fr N0 w' w2)) :
  Calls Tryz.prog 40 #[.agg s.enc.toArray,.agg #[.int .u8 6,.string s.pred,.bool false,vv,uv,sv]] w fun e w'=>e = .returned (.int .i64 (fitR (s.ty == 2) s.order false (s.ty != 4) s.rev))∧Fr N0 w w':=by
 obtain⟨sp,st,sl,se,sm,so,sr,sc⟩:=s
 simp only [Sch.enc] at *
 obtain⟨n4,hn4⟩:∃ x,(st != 4)=x:=⟨_,rfl⟩
 have hn4':(st == 4) = !n4:=by rw[← hn4];cases h:(st == 4) <;> simp_all [bne]
 rw[hn4]
 clear hn4 hn4'
 obtain⟨q,hq⟩:∃ x,(st == 2)=x:=⟨_,rfl⟩
 have hq':(st != 2) = !q:=by rw[← hq];rfl
 rw[hq]
 cases q
 ·simp only [Bool.not_false] at hq'
  go_enter Tryz.func40,Tryz.ntmps40
  go_wp2_with fail
  refine(HM.out _ (((Fr.refl _ _).alloc _).alloc _)).mono ?_
  rintro e w1 ⟨rfl,hf1⟩
  obtain⟨b1,b2⟩:=two_boxes hf1
  obtain⟨m1,n1,l1⟩:=box_cells b1
  obtain⟨m2,n2,l2⟩:=box_cells b2
  have hg1:=(((Fr.refl N0 w).alloc _).alloc _).then0 hf1
  go_wp2_with fail
  refine(HS.out _ hg1).mono ?_
  rintro e w2 ⟨rfl,hf2⟩
  obtain⟨b3,b4⟩:=two_boxes (hf1.then0 hf2)
  obtain⟨m3,n3,l3⟩:=box_cells b3
  obtain⟨m4,n4,l4⟩:=box_cells b4
  have hg2:=hg1.then0 hf2
  clear m1 n1 l1 m2 n2 l2
  go_wp2_with fail
  go_ret
  exact⟨by simp [fitR],hg2⟩
 ·simp only [Bool.not_true] at hq'
  cases so
  all_goals
   go_enter Tryz.func40,Tryz.ntmps40
   go_wp2_with fail
   refine(HM.out _ (((Fr.refl _ _).alloc _).alloc _)).mono ?_
   rintro e w1 ⟨rfl,hf1⟩
   obtain⟨b1,b2⟩:=two_boxes hf1
   obtain⟨m1,n1,l1⟩:=box_cells b1
   obtain⟨m2,n2,l2⟩:=box_cells b2
   have hg1:=(((Fr.refl N0 w).alloc _).alloc _).then0 hf1
   go_wp2_with fail
   refine(HS.out _ hg1).mono ?_
   rintro e w2 ⟨rfl,hf2⟩
   obtain⟨b3,b4⟩:=two_boxes (hf1.then0 hf2)
   obtain⟨m3,n3,l3⟩:=box_cells b3
   obtain⟨m4,n4,l4⟩:=box_cells b4
   have hg2:=hg1.then0 hf2
   clear m1 n1 l1 m2 n2 l2
   go_wp2_with fail
   go_ret
   exact⟨by simp [fitR],hg2⟩
theorem rfits_7
  (HM:Hid (∀ w',Fr N0 w w'→Calls Tryz.prog 37 #[.agg #[.int .u8 7,.string s.pred,.bool false,vv,uv,sv]] w' fun e w2=>e = .returned (.bool true)∧Fr N0 w' w2))
  (HS:Hid (∀ w',Fr N0 w w'→Calls Tryz.prog 107 #[.agg s.enc.toArray] w' fun e w2=>e = .returned (.int .i64 0)∧Fr N0 w' w2)) :
  Calls Tryz.prog 40 #[.agg s.enc.toArray,.agg #[.int .u8 7,.string s.pred,.bool false,vv,uv,sv]] w fun e w'=>e = .returned (.int .i64 (fitR (s.ty == 2) s.order false (s.ty != 4) s.rev))∧Fr N0 w w':=by
 obtain⟨sp,st,sl,se,sm,so,sr,sc⟩:=s
 simp only [Sch.enc] at *
 obtain⟨n4,hn4⟩:∃ x,(st != 4)=x:=⟨_,rfl⟩
 have hn4':(st == 4) = !n4:=by rw[← hn4];cases h:(st == 4) <;> simp_all [bne]
 rw[hn4]
 clear hn4 hn4'
 obtain⟨q,hq⟩:∃ x,(st == 2)=x:=⟨_,rfl⟩
 have hq':(st != 2) = !q:=by rw[← hq];rfl
 rw[hq]
 cases q
 ·simp only [Bool.not_false] at hq'
  go_enter Tryz.func40,Tryz.ntmps40
  go_wp2_with fail
  refine(HM.out _ (((Fr.refl _ _).alloc _).alloc _)).mono ?_
  rintro e w1 ⟨rfl,hf1⟩
  obtain⟨b1,b2⟩:=two_boxes hf1
  obtain⟨m1,n1,l1⟩:=box_cells b1
  obtain⟨m2,n2,l2⟩:=box_cells b2
  have hg1:=(((Fr.refl N0 w).alloc _).alloc _).then0 hf1
  go_wp2_with fail
  refine(HS.out _ hg1).mono ?_
  rintro e w2 ⟨rfl,hf2⟩
  obtain⟨b3,b4⟩:=two_boxes (hf1.then0 hf2)
  obtain⟨m3,n3,l3⟩:=box_cells b3
  obtain⟨m4,n4,l4⟩:=box_cells b4
  have hg2:=hg1.then0 hf2
  clear m1 n1 l1 m2 n2 l2
  go_wp2_with fail
  go_ret
  exact⟨by simp [fitR],hg2⟩
 ·simp only [Bool.not_true] at hq'
  cases so
  all_goals
   go_enter Tryz.func40,Tryz.ntmps40
   go_wp2_with fail
   refine(HM.out _ (((Fr.refl _ _).alloc _).alloc _)).mono ?_
   rintro e w1 ⟨rfl,hf1⟩
   obtain⟨b1,b2⟩:=two_boxes hf1
   obtain⟨m1,n1,l1⟩:=box_cells b1
   obtain⟨m2,n2,l2⟩:=box_cells b2
   have hg1:=(((Fr.refl N0 w).alloc _).alloc _).then0 hf1
   go_wp2_with fail
   refine(HS.out _ hg1).mono ?_
   rintro e w2 ⟨rfl,hf2⟩
   obtain⟨b3,b4⟩:=two_boxes (hf1.then0 hf2)
   obtain⟨m3,n3,l3⟩:=box_cells b3
   obtain⟨m4,n4,l4⟩:=box_cells b4
   have hg2:=hg1.then0 hf2
   clear m1 n1 l1 m2 n2 l2
   go_wp2_with fail
   go_ret
   exact⟨by simp [fitR],hg2⟩
theorem rfits_8
  (HM:Hid (∀ w',Fr N0 w w'→Calls Tryz.prog 37 #[.agg #[.int .u8 8,.string s.pred,.bool false,vv,uv,sv]] w' fun e w2=>e = .returned (.bool true)∧Fr N0 w' w2))
  (HS:Hid (∀ w',Fr N0 w w'→Calls Tryz.prog 107 #[.agg s.enc.toArray] w' fun e w2=>e = .returned (.int .i64 0)∧Fr N0 w' w2)) :
  Calls Tryz.prog 40 #[.agg s.enc.toArray,.agg #[.int .u8 8,.string s.pred,.bool false,vv,uv,sv]] w fun e w'=>e = .returned (.int .i64 (fitR (s.ty == 2) s.order false (s.ty != 4) s.rev))∧Fr N0 w w':=by
 obtain⟨sp,st,sl,se,sm,so,sr,sc⟩:=s
 simp only [Sch.enc] at *
 obtain⟨n4,hn4⟩:∃ x,(st != 4)=x:=⟨_,rfl⟩
 have hn4':(st == 4) = !n4:=by rw[← hn4];cases h:(st == 4) <;> simp_all [bne]
 rw[hn4]
 clear hn4 hn4'
 obtain⟨q,hq⟩:∃ x,(st == 2)=x:=⟨_,rfl⟩
 have hq':(st != 2) = !q:=by rw[← hq];rfl
 rw[hq]
 cases q
 ·simp only [Bool.not_false] at hq'
  go_enter Tryz.func40,Tryz.ntmps40
  go_wp2_with fail
  refine(HM.out _ (((Fr.refl _ _).alloc _).alloc _)).mono ?_
  rintro e w1 ⟨rfl,hf1⟩
  obtain⟨b1,b2⟩:=two_boxes hf1
  obtain⟨m1,n1,l1⟩:=box_cells b1
  obtain⟨m2,n2,l2⟩:=box_cells b2
  have hg1:=(((Fr.refl N0 w).alloc _).alloc _).then0 hf1
  go_wp2_with fail
  refine(HS.out _ hg1).mono ?_
  rintro e w2 ⟨rfl,hf2⟩
  obtain⟨b3,b4⟩:=two_boxes (hf1.then0 hf2)
  obtain⟨m3,n3,l3⟩:=box_cells b3
  obtain⟨m4,n4,l4⟩:=box_cells b4
  have hg2:=hg1.then0 hf2
  clear m1 n1 l1 m2 n2 l2
  go_wp2_with fail
  go_ret
  exact⟨by simp [fitR],hg2⟩
 ·simp only [Bool.not_true] at hq'
  cases so
  all_goals
   go_enter Tryz.func40,Tryz.ntmps40
   go_wp2_with fail
   refine(HM.out _ (((Fr.refl _ _).alloc _).alloc _)).mono ?_
   rintro e w1 ⟨rfl,hf1⟩
   obtain⟨b1,b2⟩:=two_boxes hf1
   obtain⟨m1,n1,l1⟩:=box_cells b1
   obtain⟨m2,n2,l2⟩:=box_cells b2
   have hg1:=(((Fr.refl N0 w).alloc _).alloc _).then0 hf1
   go_wp2_with fail
   refine(HS.out _ hg1).mono ?_
   rintro e w2 ⟨rfl,hf2⟩
   obtain⟨b3,b4⟩:=two_boxes (hf1.then0 hf2)
   obtain⟨m3,n3,l3⟩:=box_cells b3
   obtain⟨m4,n4,l4⟩:=box_cells b4
   have hg2:=hg1.then0 hf2
   clear m1 n1 l1 m2 n2 l2
   go_wp2_with fail
   go_ret
   exact⟨by simp [fitR],hg2⟩
theorem rfits_9
  (HM:Hid (∀ w',Fr N0 w w'→Calls Tryz.prog 37 #[.agg #[.int .u8 9,.string s.pred,.bool false,vv,uv,sv]] w' fun e w2=>e = .returned (.bool true)∧Fr N0 w' w2))
  (HS:Hid (∀ w',Fr N0 w w'→Calls Tryz.prog 107 #[.agg s.enc.toArray] w' fun e w2=>e = .returned (.int .i64 0)∧Fr N0 w' w2)) :
  Calls Tryz.prog 40 #[.agg s.enc.toArray,.agg #[.int .u8 9,.string s.pred,.bool false,vv,uv,sv]] w fun e w'=>e = .returned (.int .i64 (fitR (s.ty == 2) s.order false (s.ty != 4) s.rev))∧Fr N0 w w':=by
 obtain⟨sp,st,sl,se,sm,so,sr,sc⟩:=s
 simp only [Sch.enc] at *
 obtain⟨n4,hn4⟩:∃ x,(st != 4)=x:=⟨_,rfl⟩
 have hn4':(st == 4) = !n4:=by rw[← hn4];cases h:(st == 4) <;> simp_all [bne]
 rw[hn4]
 clear hn4 hn4'
 obtain⟨q,hq⟩:∃ x,(st == 2)=x:=⟨_,rfl⟩
 have hq':(st != 2) = !q:=by rw[← hq];rfl
 rw[hq]
 cases q
 ·simp only [Bool.not_false] at hq'
  go_enter Tryz.func40,Tryz.ntmps40
  go_wp2_with fail
  refine(HM.out _ (((Fr.refl _ _).alloc _).alloc _)).mono ?_
  rintro e w1 ⟨rfl,hf1⟩
  obtain⟨b1,b2⟩:=two_boxes hf1
  obtain⟨m1,n1,l1⟩:=box_cells b1
  obtain⟨m2,n2,l2⟩:=box_cells b2
  have hg1:=(((Fr.refl N0 w).alloc _).alloc _).then0 hf1
  go_wp2_with fail
  refine(HS.out _ hg1).mono ?_
  rintro e w2 ⟨rfl,hf2⟩
  obtain⟨b3,b4⟩:=two_boxes (hf1.then0 hf2)
  obtain⟨m3,n3,l3⟩:=box_cells b3
  obtain⟨m4,n4,l4⟩:=box_cells b4
  have hg2:=hg1.then0 hf2
  clear m1 n1 l1 m2 n2 l2
  go_wp2_with fail
  go_ret
  exact⟨by simp [fitR],hg2⟩
 ·simp only [Bool.not_true] at hq'
  cases so
  all_goals
   go_enter Tryz.func40,Tryz.ntmps40
   go_wp2_with fail
   refine(HM.out _ (((Fr.refl _ _).alloc _).alloc _)).mono ?_
   rintro e w1 ⟨rfl,hf1⟩
   obtain⟨b1,b2⟩:=two_boxes hf1
   obtain⟨m1,n1,l1⟩:=box_cells b1
   obtain⟨m2,n2,l2⟩:=box_cells b2
   have hg1:=(((Fr.refl N0 w).alloc _).alloc _).then0 hf1
   go_wp2_with fail
   refine(HS.out _ hg1).mono ?_
   rintro e w2 ⟨rfl,hf2⟩
   obtain⟨b3,b4⟩:=two_boxes (hf1.then0 hf2)
   obtain⟨m3,n3,l3⟩:=box_cells b3
   obtain⟨m4,n4,l4⟩:=box_cells b4
   have hg2:=hg1.then0 hf2
   clear m1 n1 l1 m2 n2 l2
   go_wp2_with fail
   go_ret
   exact⟨by simp [fitR],hg2⟩
theorem rfits_10
  (HM:Hid (∀ w',Fr N0 w w'→Calls Tryz.prog 37 #[.agg #[.int .u8 10,.string s.pred,.bool false,vv,uv,sv]] w' fun e w2=>e = .returned (.bool true)∧Fr N0 w' w2))
  (HS:Hid (∀ w',Fr N0 w w'→Calls Tryz.prog 107 #[.agg s.enc.toArray] w' fun e w2=>e = .returned (.int .i64 0)∧Fr N0 w' w2)) :
  Calls Tryz.prog 40 #[.agg s.enc.toArray,.agg #[.int .u8 10,.string s.pred,.bool false,vv,uv,sv]] w fun e w'=>e = .returned (.int .i64 (fitR (s.ty == 2) s.order false (s.ty != 4) s.rev))∧Fr N0 w w':=by
 obtain⟨sp,st,sl,se,sm,so,sr,sc⟩:=s
 simp only [Sch.enc] at *
 obtain⟨n4,hn4⟩:∃ x,(st != 4)=x:=⟨_,rfl⟩
 have hn4':(st == 4) = !n4:=by rw[← hn4];cases h:(st == 4) <;> simp_all [bne]
 rw[hn4]
 clear hn4 hn4'
 obtain⟨q,hq⟩:∃ x,(st == 2)=x:=⟨_,rfl⟩
 have hq':(st != 2) = !q:=by rw[← hq];rfl
 rw[hq]
 cases q
 ·simp only [Bool.not_false] at hq'
  go_enter Tryz.func40,Tryz.ntmps40
  go_wp2_with fail
  refine(HM.out _ (((Fr.refl _ _).alloc _).alloc _)).mono ?_
  rintro e w1 ⟨rfl,hf1⟩
  obtain⟨b1,b2⟩:=two_boxes hf1
  obtain⟨m1,n1,l1⟩:=box_cells b1
  obtain⟨m2,n2,l2⟩:=box_cells b2
  have hg1:=(((Fr.refl N0 w).alloc _).alloc _).then0 hf1
  go_wp2_with fail
  refine(HS.out _ hg1).mono ?_
  rintro e w2 ⟨rfl,hf2⟩
  obtain⟨b3,b4⟩:=two_boxes (hf1.then0 hf2)
  obtain⟨m3,n3,l3⟩:=box_cells b3
  obtain⟨m4,n4,l4⟩:=box_cells b4
  have hg2:=hg1.then0 hf2
  clear m1 n1 l1 m2 n2 l2
  go_wp2_with fail
  go_ret
  exact⟨by simp [fitR],hg2⟩
 ·simp only [Bool.not_true] at hq'
  cases so
  all_goals
   go_enter Tryz.func40,Tryz.ntmps40
   go_wp2_with fail
   refine(HM.out _ (((Fr.refl _ _).alloc _).alloc _)).mono ?_
   rintro e w1 ⟨rfl,hf1⟩
   obtain⟨b1,b2⟩:=two_boxes hf1
   obtain⟨m1,n1,l1⟩:=box_cells b1
   obtain⟨m2,n2,l2⟩:=box_cells b2
   have hg1:=(((Fr.refl N0 w).alloc _).alloc _).then0 hf1
   go_wp2_with fail
   refine(HS.out _ hg1).mono ?_
   rintro e w2 ⟨rfl,hf2⟩
   obtain⟨b3,b4⟩:=two_boxes (hf1.then0 hf2)
   obtain⟨m3,n3,l3⟩:=box_cells b3
   obtain⟨m4,n4,l4⟩:=box_cells b4
   have hg2:=hg1.then0 hf2
   clear m1 n1 l1 m2 n2 l2
   go_wp2_with fail
   go_ret
   exact⟨by simp [fitR],hg2⟩
theorem rfits_11(back:Bool)
  (HM:Hid (∀ w',Fr N0 w w'→Calls Tryz.prog 37 #[.agg #[.int .u8 11,.string s.pred,.bool back,vv,uv,sv]] w' fun e w2=>e = .returned (.bool true)∧Fr N0 w' w2))
  (HS:Hid (∀ w',Fr N0 w w'→Calls Tryz.prog 107 #[.agg s.enc.toArray] w' fun e w2=>e = .returned (.int .i64 0)∧Fr N0 w' w2)) :
  Calls Tryz.prog 40 #[.agg s.enc.toArray,.agg #[.int .u8 11,.string s.pred,.bool back,vv,uv,sv]] w fun e w'=>e = .returned (.int .i64 (fitR true (s.count) back (s.ty != 4) s.rev))∧Fr N0 w w':=by
 obtain⟨sp,st,sl,se,sm,so,sr,sc⟩:=s
 simp only [Sch.enc] at *
 obtain⟨n4,hn4⟩:∃ x,(st != 4)=x:=⟨_,rfl⟩
 have hn4':(st == 4) = !n4:=by rw[← hn4];cases h:(st == 4) <;> simp_all [bne]
 rw[hn4]
 cases sc
 ·cases back
  all_goals
   clear hn4 hn4'
   go_enter Tryz.func40,Tryz.ntmps40
   go_wp2_with fail
   refine(HM.out _ (((Fr.refl _ _).alloc _).alloc _)).mono ?_
   rintro e w1 ⟨rfl,hf1⟩
   obtain⟨b1,b2⟩:=two_boxes hf1
   obtain⟨m1,n1,l1⟩:=box_cells b1
   obtain⟨m2,n2,l2⟩:=box_cells b2
   have hg1:=(((Fr.refl N0 w).alloc _).alloc _).then0 hf1
   go_wp2_with fail
   refine(HS.out _ hg1).mono ?_
   rintro e w2 ⟨rfl,hf2⟩
   obtain⟨b3,b4⟩:=two_boxes (hf1.then0 hf2)
   obtain⟨m3,n3,l3⟩:=box_cells b3
   obtain⟨m4,n4,l4⟩:=box_cells b4
   have hg2:=hg1.then0 hf2
   clear m1 n1 l1 m2 n2 l2
   go_wp2_with fail
   go_ret
   exact⟨by simp [fitR],hg2⟩
 ·cases back
  ·clear hn4 hn4'
   go_enter Tryz.func40,Tryz.ntmps40
   go_wp2_with fail
   refine(HM.out _ (((Fr.refl _ _).alloc _).alloc _)).mono ?_
   rintro e w1 ⟨rfl,hf1⟩
   obtain⟨b1,b2⟩:=two_boxes hf1
   obtain⟨m1,n1,l1⟩:=box_cells b1
   obtain⟨m2,n2,l2⟩:=box_cells b2
   have hg1:=(((Fr.refl N0 w).alloc _).alloc _).then0 hf1
   go_wp2_with fail
   refine(HS.out _ hg1).mono ?_
   rintro e w2 ⟨rfl,hf2⟩
   obtain⟨b3,b4⟩:=two_boxes (hf1.then0 hf2)
   obtain⟨m3,n3,l3⟩:=box_cells b3
   obtain⟨m4,n4,l4⟩:=box_cells b4
   have hg2:=hg1.then0 hf2
   clear m1 n1 l1 m2 n2 l2
   go_wp2_with fail
   go_ret
   exact⟨by simp [fitR],hg2⟩
  ·cases n4
   ·simp only [Bool.not_false] at hn4'
    cases sr
    all_goals
     go_enter Tryz.func40,Tryz.ntmps40
     go_wp2_with fail
     refine(HM.out _ (((Fr.refl _ _).alloc _).alloc _)).mono ?_
     rintro e w1 ⟨rfl,hf1⟩
     obtain⟨b1,b2⟩:=two_boxes hf1
     obtain⟨m1,n1,l1⟩:=box_cells b1
     obtain⟨m2,n2,l2⟩:=box_cells b2
     have hg1:=(((Fr.refl N0 w).alloc _).alloc _).then0 hf1
     go_wp2_with fail
     refine(HS.out _ hg1).mono ?_
     rintro e w2 ⟨rfl,hf2⟩
     obtain⟨b3,b4⟩:=two_boxes (hf1.then0 hf2)
     obtain⟨m3,n3,l3⟩:=box_cells b3
     obtain⟨m4,n4,l4⟩:=box_cells b4
     have hg2:=hg1.then0 hf2
     clear m1 n1 l1 m2 n2 l2
     go_wp2_with fail
     go_ret
     exact⟨by simp [fitR],hg2⟩
   ·simp only [Bool.not_true] at hn4'
    go_enter Tryz.func40,Tryz.ntmps40
    go_wp2_with fail
    refine(HM.out _ (((Fr.refl _ _).alloc _).alloc _)).mono ?_
    rintro e w1 ⟨rfl,hf1⟩
    obtain⟨b1,b2⟩:=two_boxes hf1
    obtain⟨m1,n1,l1⟩:=box_cells b1
    obtain⟨m2,n2,l2⟩:=box_cells b2
    have hg1:=(((Fr.refl N0 w).alloc _).alloc _).then0 hf1
    go_wp2_with fail
    refine(HS.out _ hg1).mono ?_
    rintro e w2 ⟨rfl,hf2⟩
    obtain⟨b3,b4⟩:=two_boxes (hf1.then0 hf2)
    obtain⟨m3,n3,l3⟩:=box_cells b3
    obtain⟨m4,n4,l4⟩:=box_cells b4
    have hg2:=hg1.then0 hf2
    clear m1 n1 l1 m2 n2 l2
    go_wp2_with fail
    go_ret
    exact⟨by simp [fitR],hg2⟩
theorem rfits_2(back:Bool)
  (HM:Hid (∀ w',Fr N0 w w'→Calls Tryz.prog 37 #[.agg #[.int .u8 2,.string s.pred,.bool back,vv,uv,sv]] w' fun e w2=>e = .returned (.bool true)∧Fr N0 w' w2))
  (HS:Hid (∀ w',Fr N0 w w'→Calls Tryz.prog 107 #[.agg s.enc.toArray] w' fun e w2=>e = .returned (.int .i64 0)∧Fr N0 w' w2)) :
  Calls Tryz.prog 40 #[.agg s.enc.toArray,.agg #[.int .u8 2,.string s.pred,.bool back,vv,uv,sv]] w fun e w'=>e = .returned (.int .i64 (fitR true (true) back (s.ty != 4) s.rev))∧Fr N0 w w':=by
 obtain⟨sp,st,sl,se,sm,so,sr,sc⟩:=s
 simp only [Sch.enc] at *
 obtain⟨n4,hn4⟩:∃ x,(st != 4)=x:=⟨_,rfl⟩
 have hn4':(st == 4) = !n4:=by rw[← hn4];cases h:(st == 4) <;> simp_all [bne]
 rw[hn4]
 cases back
 ·clear hn4 hn4'
  go_enter Tryz.func40,Tryz.ntmps40
  go_wp2_with fail
  refine(HM.out _ (((Fr.refl _ _).alloc _).alloc _)).mono ?_
  rintro e w1 ⟨rfl,hf1⟩
  obtain⟨b1,b2⟩:=two_boxes hf1
  obtain⟨m1,n1,l1⟩:=box_cells b1
  obtain⟨m2,n2,l2⟩:=box_cells b2
  have hg1:=(((Fr.refl N0 w).alloc _).alloc _).then0 hf1
  go_wp2_with fail
  refine(HS.out _ hg1).mono ?_
  rintro e w2 ⟨rfl,hf2⟩
  obtain⟨b3,b4⟩:=two_boxes (hf1.then0 hf2)
  obtain⟨m3,n3,l3⟩:=box_cells b3
  obtain⟨m4,n4,l4⟩:=box_cells b4
  have hg2:=hg1.then0 hf2
  clear m1 n1 l1 m2 n2 l2
  go_wp2_with fail
  go_ret
  exact⟨by simp [fitR],hg2⟩
 ·cases n4
  ·simp only [Bool.not_false] at hn4'
   cases sr
   all_goals
    go_enter Tryz.func40,Tryz.ntmps40
    go_wp2_with fail
    refine(HM.out _ (((Fr.refl _ _).alloc _).alloc _)).mono ?_
    rintro e w1 ⟨rfl,hf1⟩
    obtain⟨b1,b2⟩:=two_boxes hf1
    obtain⟨m1,n1,l1⟩:=box_cells b1
    obtain⟨m2,n2,l2⟩:=box_cells b2
    have hg1:=(((Fr.refl N0 w).alloc _).alloc _).then0 hf1
    go_wp2_with fail
    refine(HS.out _ hg1).mono ?_
    rintro e w2 ⟨rfl,hf2⟩
    obtain⟨b3,b4⟩:=two_boxes (hf1.then0 hf2)
    obtain⟨m3,n3,l3⟩:=box_cells b3
    obtain⟨m4,n4,l4⟩:=box_cells b4
    have hg2:=hg1.then0 hf2
    clear m1 n1 l1 m2 n2 l2
    go_wp2_with fail
    go_ret
    exact⟨by simp [fitR],hg2⟩
  ·simp only [Bool.not_true] at hn4'
   go_enter Tryz.func40,Tryz.ntmps40
   go_wp2_with fail
   refine(HM.out _ (((Fr.refl _ _).alloc _).alloc _)).mono ?_
   rintro e w1 ⟨rfl,hf1⟩
   obtain⟨b1,b2⟩:=two_boxes hf1
   obtain⟨m1,n1,l1⟩:=box_cells b1
   obtain⟨m2,n2,l2⟩:=box_cells b2
   have hg1:=(((Fr.refl N0 w).alloc _).alloc _).then0 hf1
   go_wp2_with fail
   refine(HS.out _ hg1).mono ?_
   rintro e w2 ⟨rfl,hf2⟩
   obtain⟨b3,b4⟩:=two_boxes (hf1.then0 hf2)
   obtain⟨m3,n3,l3⟩:=box_cells b3
   obtain⟨m4,n4,l4⟩:=box_cells b4
   have hg2:=hg1.then0 hf2
   clear m1 n1 l1 m2 n2 l2
   go_wp2_with fail
   go_ret
   exact⟨by simp [fitR],hg2⟩
end
theorem rfits_no(w:World)(s:Sch)(f:Fn)(vv uv sv:Value)(M S:Int)(hM:fnMay f=M)(hS:schMay s=S)
  (HM:Hid (∀ w',Fr N0 w w'→Calls Tryz.prog 37 #[.agg (f.enc vv uv sv)] w' fun e w2=>e = .returned (.bool (decide (M=0)))∧Fr N0 w' w2))
  (HS:Hid (∀ w',Fr N0 w w'→Calls Tryz.prog 107 #[.agg s.enc.toArray] w' fun e w2=>e = .returned (.int .i64 S)∧Fr N0 w' w2)) (hno:M≠0∨S≠0∨s.pred≠f.pred) :
  Calls Tryz.prog 40 #[.agg s.enc.toArray,.agg (f.enc vv uv sv)] w fun e w'=>e = .returned (.int .i64 (fnFits s f))∧Fr N0 w w':=by
 have hm:M=0∨M=190:=by
  rw[← hM];unfold fnMay mayR;split
  ·exact .inl rfl
  ·exact .inr rfl
 unfold fnFits
 simp only [hM,hS]
 clear hM hS
 by_cases c1:M=0
 ·subst c1
  rw[if_neg (by simp)]
  simp only [decide_true] at HM
  by_cases c2:S=0
  ·subst c2
   have c3:s.pred≠f.pred:=by simpa using hno
   rw[if_neg (by simp),if_pos c3]
   obtain⟨sp,st,sl,se,sm,so,sr,sc⟩:=s
   obtain⟨kd,pred,back,vals,nu,ns⟩:=f
   simp only [Fn.enc,Sch.enc] at *
   have hb:(sp.toList != pred.toList)=true:=by
    simp only [bne_iff_ne,ne_eq]
    intro e
    apply c3
    rw[ByteArray.toList_eq,ByteArray.toList_eq] at e
    exact ByteArray.ext (Array.toList_inj.1 e)
   have hb':(sp.toList == pred.toList)=false:=by simpa using hb
   go_enter Tryz.func40,Tryz.ntmps40
   go_wp2_with fail
   refine(HM.out _ (((Fr.refl _ _).alloc _).alloc _)).mono ?_
   rintro e w1 ⟨rfl,hf1⟩
   obtain⟨b1,b2⟩:=two_boxes hf1
   obtain⟨m1,n1,l1⟩:=box_cells b1
   obtain⟨m2,n2,l2⟩:=box_cells b2
   have hg1:=(((Fr.refl N0 w).alloc _).alloc _).then0 hf1
   go_wp2_with fail
   refine(HS.out _ hg1).mono ?_
   rintro e w2 ⟨rfl,hf2⟩
   obtain⟨b3,b4⟩:=two_boxes (hf1.then0 hf2)
   obtain⟨m3,n3,l3⟩:=box_cells b3
   obtain⟨m4,n4,l4⟩:=box_cells b4
   have hg2:=hg1.then0 hf2
   clear m1 n1 l1 m2 n2 l2
   go_wp2_with fail
   go_ret
   exact⟨by rfl,hg2⟩
  ·rw[if_pos c2]
   have d2:(S != 0)=true:=by simpa using c2
   obtain⟨sp,st,sl,se,sm,so,sr,sc⟩:=s
   obtain⟨kd,pred,back,vals,nu,ns⟩:=f
   simp only [Fn.enc,Sch.enc] at *
   go_enter Tryz.func40,Tryz.ntmps40
   go_wp2_with fail
   refine(HM.out _ (((Fr.refl _ _).alloc _).alloc _)).mono ?_
   rintro e w1 ⟨rfl,hf1⟩
   obtain⟨b1,b2⟩:=two_boxes hf1
   obtain⟨m1,n1,l1⟩:=box_cells b1
   obtain⟨m2,n2,l2⟩:=box_cells b2
   have hg1:=(((Fr.refl N0 w).alloc _).alloc _).then0 hf1
   go_wp2_with fail
   refine(HS.out _ hg1).mono ?_
   rintro e w2 ⟨rfl,hf2⟩
   obtain⟨b3,b4⟩:=two_boxes (hf1.then0 hf2)
   obtain⟨m3,n3,l3⟩:=box_cells b3
   obtain⟨m4,n4,l4⟩:=box_cells b4
   have hg2:=hg1.then0 hf2
   clear m1 n1 l1 m2 n2 l2
   go_wp2_with fail
   go_ret
   exact⟨by rfl,hg2⟩
 ·obtain rfl:M=190:=hm.resolve_left c1
  rw[if_pos (by decide)]
  have e:decide ((190:Int)=0)=false:=by decide
  rw[e] at HM
  obtain⟨sp,st,sl,se,sm,so,sr,sc⟩:=s
  obtain⟨kd,pred,back,vals,nu,ns⟩:=f
  simp only [Fn.enc,Sch.enc] at *
  go_enter Tryz.func40,Tryz.ntmps40
  go_wp2_with fail
  refine(HM.out _ (((Fr.refl _ _).alloc _).alloc _)).mono ?_
  rintro e w1 ⟨rfl,hf1⟩
  have hg1:=(((Fr.refl N0 w).alloc _).alloc _).then0 hf1
  go_wp2_with fail
  go_ret
  exact⟨rfl,hg1⟩
theorem fnMay_zero{f:Fn}(h:fnMay f=0):f.uids=0∧f.vars=0∧(f.back=true→f.kind=2∨f.kind=11)∧valsOk f.kind f.vals=true:=by
 unfold fnMay mayR at h
 split at h
 ·rename_i hh
  simp only [Bool.and_eq_true,decide_eq_true_eq] at hh
  obtain⟨⟨⟨⟨h1,h2⟩,h3⟩,h4⟩,h5⟩:=hh
  refine⟨h2,h3,fun hb=>?_,h5⟩
  rw[hb] at h4
  by_cases c2:f.kind=2
  ·exact .inl c2
  ·by_cases c11:f.kind=11
   ·exact .inr c11
   ·simp [c2,c11] at h4
 ·cases h
theorem r19Fits_any(w:World)(s:Sch)(b:Nat)(f:Fn)(vv uv sv:Value)(h:FnAt w b f vv uv sv) :
  Calls Tryz.prog 40 #[.agg s.enc.toArray,.agg (f.enc vv uv sv)] w fun e w'=>e = .returned (.int .i64 (fnFits s f))∧Fr N0 w w':=by
 have hm:=fun w' (hf:Fr N0 w w')=>r19May_any w' b f vv uv sv (h.fr hf)
 have hs:=fun w' (_:Fr N0 w w')=>r4Schema_any s w'
 by_cases hno:fnMay f≠0∨schMay s≠0∨s.pred≠f.pred
 ·exact rfits_no w s f vv uv sv _ _ rfl rfl (hhd hm) (hhd hs) hno
 ·simp only [not_or,Classical.not_not] at hno
  obtain⟨c1,c2,c3⟩:=hno
  obtain⟨-,-,hb,hv⟩:=fnMay_zero c1
  have hfit:fnFits s f=fitR (fitOk s f) (fitIx s f) f.back (s.ty != 4) s.rev:=by
   unfold fnFits
   rw[if_neg (fun h=>h c1),if_neg (fun h=>h c2),if_neg (fun h=>h c3)]
  rw[hfit]
  simp only [c1,decide_true] at hm
  simp only [c2] at hs
  have hV:=h.vals
  obtain⟨kd,pred,back,vals,nu,ns⟩:=f
  simp only at c3 hb hv hV
  subst c3
  simp only [Fn.enc] at hm ⊢
  have HM:=hhd hm;have HS:=hhd hs
  unfold fitOk fitIx
  simp only
  by_cases k2:kd=2
  ·subst k2;exact rfits_2 w s vv uv sv back HM HS
  by_cases k11:kd=11
  ·subst k11;exact rfits_11 w s vv uv sv back HM HS
  obtain rfl:back=false:=by
   cases back
   ·rfl
   ·exact absurd (hb rfl) (by simp [k2,k11])
  by_cases k3:kd=3
  ·subst k3
   have hn:0 < vals.length:=by
    unfold valsOk valsR at hv
    rw[if_neg (by decide),if_pos rfl] at hv
    simp at hv;omega
   obtain⟨va,voff,vc,rfl,v1,v2,v3,-,v5⟩:=hV
   obtain rfl:=v3 hn
   have hz:=v5 0 hn 0 (by decide)
   rw[List.getElem?_eq_getElem hn]
   obtain⟨x,hx⟩:∃ x,vals[0]=x:=⟨_,rfl⟩
   rw[hx] at hz ⊢
   exact rfits_3 w s uv sv b voff _ vc x.k hn (by simpa [Val.enc] using hz) HM HS
  by_cases k4:kd=4
  ·subst k4;exact rfits_4 w s vv uv sv HM HS
  by_cases k5:kd=5
  ·subst k5;exact rfits_5 w s vv uv sv HM HS
  by_cases k6:kd=6
  ·subst k6;exact rfits_6 w s vv uv sv HM HS
  by_cases k7:kd=7
  ·subst k7;exact rfits_7 w s vv uv sv HM HS
  by_cases k8:kd=8
  ·subst k8;exact rfits_8 w s vv uv sv HM HS
  by_cases k9:kd=9
  ·subst k9;exact rfits_9 w s vv uv sv HM HS
  by_cases k10:kd=10
  ·subst k10;exact rfits_10 w s vv uv sv HM HS
  ·exfalso;unfold valsOk valsR at hv;simp [k2,k3,k4,k5,k6,k7,k8,k9,k10,k11] at hv
end
section
open Go.RowKit Go.Shelf Go.Maps Go.Sort
attribute [local go_sem] Oper.semAt_some
attribute [local go_sem ↓] Go.wp_at_zero Go.wp_at_succ
attribute [local irreducible] wpQuiet
theorem valsOk_at{kd:Int}{l:List Val}(h:valsOk kd l=true):(kd=3→0 < l.length)∧(kd≠2→kd≠3→kd≠10→l.length=1)∧(kd=10→l.length=2)∧(kd=2∨kd=3∨kd=4∨kd=5∨kd=6∨kd=7∨kd=8∨kd=9∨kd=10∨kd=11):=by
 unfold valsOk valsR at h
 split at h
 ·rename_i e;subst e;exact⟨fun e=>(by cases e),fun e=>absurd rfl e,fun e=>(by cases e),by simp⟩
 ·split at h
  ·rename_i e;subst e
   simp only [Bool.and_eq_true,decide_eq_true_eq] at h
   exact⟨fun _=>h.1.1,fun _ e=>absurd rfl e,fun e=>(by cases e),by simp⟩
  ·split at h
   ·rename_i e2 e3 e
    simp only [Bool.and_eq_true,decide_eq_true_eq] at h
    exact⟨fun e'=>absurd e' e3,fun _ _ _=>h.1,fun e'=>by omega,by omega⟩
   ·split at h
    ·rename_i e2 e3 e4 e
     simp only [Bool.and_eq_true,decide_eq_true_eq] at h
     exact⟨fun e'=>absurd e' e3,fun _ _ _=>h.1,fun e'=>by omega,by omega⟩
    ·split at h
     ·rename_i e2 e3 e4 e5 e
      simp only [Bool.and_eq_true,decide_eq_true_eq] at h
      exact⟨fun e'=>absurd e' e3,fun _ _ e'=>absurd e e',fun _=>h.1,by omega⟩
     ·cases h
theorem row_cellV{w:World}{b:Nat}{vv:Value}{l:List Val}(h:RowsK Val.enc 5 w b vv l)(h0:0 < l.length):∃ off c,vv = .slice (some ⟨b,off,none⟩) l.length c∧∀ i (hi:i < l.length),w.cell? ⟨b,off+i * 5+2,none⟩=some (.int .i64 l[i].n)∧w.cell? ⟨b,off+i * 5+3,none⟩=some (.string l[i].s):=by
 obtain⟨a,off,cap,rfl,h1,h2,h3,-,h5⟩:=h
 obtain rfl:=h3 h0
 refine⟨off,cap,rfl,fun i hi=>⟨?_,?_⟩⟩
 ·have:=h5 i hi 2 (by decide);simpa [Val.enc] using this
 ·have:=h5 i hi 3 (by decide);simpa [Val.enc] using this
theorem r19one_any(w:World)(b:Nat)(f:Fn)(vv uv sv:Value)(h:FnAt w b f vv uv sv)(hm:fnMay f=0)(hk2:f.kind≠2)(hk11:f.kind≠11)(hs:∀ x ∈ f.vals,x.s.size≤10000)(x:Val)(hx:x.s.size≤10000) :
  Calls Tryz.prog 179 #[.agg (f.enc vv uv sv),.agg x.enc.toArray] w fun e w'=>e = .returned (.bool (oneR f x))∧Fr N0 w w':=by
 obtain⟨-,-,-,hv⟩:=fnMay_zero hm
 obtain⟨v1,v2,v3,v4⟩:=valsOk_at hv
 have hV:=h.vals
 have hl:=h.len
 obtain⟨kd,pred,back,vals,nu,ns⟩:=f
 simp only at *
 unfold oneR
 simp only [Fn.enc]
 by_cases k3:kd=3
 ·subst k3
  exact one_3 w b pred back vv uv sv vals hV hl x
 have h0:0 < vals.length:=by
  by_cases k10:kd=10
  ·have:=v3 k10;omega
  ·have:=v2 hk2 k3 k10;omega
 obtain⟨off,c,rfl,hc⟩:=row_cellV hV h0
 obtain⟨c2,c3⟩:=hc 0 h0
 simp only [Nat.zero_mul,Nat.add_zero] at c2 c3
 have hs0:=hs _ (List.getElem_mem h0)
 rw[List.getElem?_eq_getElem h0]
 simp only [Option.map_some,Option.getD_some]
 obtain⟨xk,xb,xn,xs,xu⟩:=x
 simp only [Val.enc] at hx ⊢
 by_cases k4:kd=4
 ·subst k4;exact one_4 w pred back uv sv b off _ c xk xn xu xb xs _ hs0 hx h0 c3
 by_cases k5:kd=5
 ·subst k5;exact one_5 w pred back uv sv b off _ c xk xn xu xb xs _ hs0 hx h0 c3
 by_cases k6:kd=6
 ·subst k6;exact one_6 w pred back uv sv b off _ c xk xn xu xb xs _ h0 c2
 by_cases k7:kd=7
 ·subst k7;exact one_7 w pred back uv sv b off _ c xk xn xu xb xs _ h0 c2
 by_cases k8:kd=8
 ·subst k8;exact one_8 w pred back uv sv b off _ c xk xn xu xb xs _ h0 c2
 by_cases k9:kd=9
 ·subst k9;exact one_9 w pred back uv sv b off _ c xk xn xu xb xs _ h0 c2
 have k10:kd=10:=by omega
 have hl2:=v3 k10
 obtain⟨c7,-⟩:=hc 1 (by omega)
 rw[if_neg k3,if_neg k4,if_neg k5,if_neg k6,if_neg k7,if_neg k8,if_neg k9,List.getElem?_eq_getElem (show 1 < vals.length by omega)]
 exact one_10 w pred back uv sv b off _ c xk xn xu xb xs kd _ _ ⟨k3,k4,k5,k6,k7,k8,k9⟩ (by omega) c2 (by rw[show off+1 * 5+2=off+7 by omega] at c7;exact c7)
noncomputable def findsR(f:Fn)(vs:List Val)(nb:Nat):Bool:=
 if f.kind=2 then decide (0 < (if f.back then nb else vs.length))
 else if f.kind=11 then decide (0 < (if f.back then nb else vs.length)) && decide ((f.vals[0]?.map (·.n)).getD 0=((if f.back then nb else vs.length:Nat):Int))
 else vs.any (oneR f)
section
variable (w:World) (pred:ByteArray) (back:Bool) (vv uv sv:Value) (ga:Option Addr) (m gc nb:Nat)
theorem finds_2:Calls Tryz.prog 110 #[.agg #[.int .u8 2,.string pred,.bool back,vv,uv,sv],.slice ga m gc,.int .i64 nb] w fun e w'=>e = .returned (.bool (decide (0 < (if back then nb else m))))∧Fr N0 w w':=by
 cases back
 all_goals
  simp only [if_true,Bool.false_eq_true,if_false]
  go_enter Tryz.func110,Tryz.ntmps110
  go_wp2_with fail
  go_ret
  exact⟨by simp;try rfl,(Fr.refl N0 w).alloc _⟩
theorem finds_11(b off n c:Nat)(y:Int)(hn:0 < n)(hy:w.cell? ⟨b,off+2,none⟩=some (.int .i64 y)) :
  Calls Tryz.prog 110 #[.agg #[.int .u8 11,.string pred,.bool back,.slice (some ⟨b,off,none⟩) n c,uv,sv],.slice ga m gc,.int .i64 nb] w fun e w'=>e = .returned (.bool (decide (0 < (if back then nb else m)) && decide (y=((if back then nb else m:Nat):Int))))∧Fr N0 w w':=by
 have hn0:(0:Int) < (n:Int):=by omega
 have hfr:=fun x=>((Fr.refl N0 w).alloc x).cell id hy
 have hy2:=hfr (.cells #[.int .u8 11,.string pred,.bool back,.slice (some ⟨b,off,none⟩) n c,uv,sv] 94)
 clear hy hfr
 cases back
 ·simp only [Bool.false_eq_true,if_false]
  by_cases h0:0 < m
  ·have h0':(0:Int) < (m:Int):=by omega
   go_enter Tryz.func110,Tryz.ntmps110
   go_wp2_with fail
   go_ret
   exact⟨by simp [h0];try rfl,(Fr.refl N0 w).alloc _⟩
  ·have h0':¬(0:Int) < (m:Int):=by omega
   go_enter Tryz.func110,Tryz.ntmps110
   go_wp2_with fail
   go_ret
   exact⟨by simp [h0];try rfl,(Fr.refl N0 w).alloc _⟩
 ·simp only [if_true]
  by_cases h0:0 < nb
  ·have h0':(0:Int) < (nb:Int):=by omega
   go_enter Tryz.func110,Tryz.ntmps110
   go_wp2_with fail
   go_ret
   exact⟨by simp [h0];try rfl,(Fr.refl N0 w).alloc _⟩
  ·have h0':¬(0:Int) < (nb:Int):=by omega
   go_enter Tryz.func110,Tryz.ntmps110
   go_wp2_with fail
   go_ret
   exact⟨by simp [h0];try rfl,(Fr.refl N0 w).alloc _⟩
end
abbrev FdS(B g o:Nat)(fc:Array Value)(xk xn xu:Int)(xb:Bool)(xs:ByteArray)(w W:World):Prop:=BoxB B fc W∧W.cell? ⟨g,o,none⟩=some (.int .u8 xk)∧W.cell? ⟨g,o+1,none⟩=some (.bool xb)∧W.cell? ⟨g,o+2,none⟩=some (.int .i64 xn)∧W.cell? ⟨g,o+3,none⟩=some (.string xs)∧W.cell? ⟨g,o+4,none⟩=some (.int .u64 xu)∧Fr N0 w W
theorem fdS_keep{B g o:Nat}{fc:Array Value}{xk xn xu:Int}{xb:Bool}{xs:ByteArray}{w W W':World}(h:FdS B g o fc xk xn xu xb xs w W)(hf:Fr N0 W W'):FdS B g o fc xk xn xu xb xs w W':=
 ⟨boxB_keep hf id h.1,hf.cell id h.2.1,hf.cell id h.2.2.1,hf.cell id h.2.2.2.1,hf.cell id h.2.2.2.2.1,hf.cell id h.2.2.2.2.2.1,h.2.2.2.2.2.2.then0 hf⟩
theorem finds_any(w:World)(kd:Int)(pred:ByteArray)(back:Bool)(vv uv sv:Value)(nb:Nat)(gb:Nat)(wv:Value)(vs:List Val)(hV:RowsK Val.enc 5 w gb wv vs)(hl:vs.length≤10000000000)(k2:kd≠2)(k11:kd≠11)(p:Val→Bool)
  (hp:∀ W (x:Val),Fr N0 w W→x ∈ vs→Calls Tryz.prog 179 #[.agg #[.int .u8 kd,.string pred,.bool back,vv,uv,sv],.agg x.enc.toArray] W fun e w'=>e = .returned (.bool (p x))∧Fr N0 W w') :
  Calls Tryz.prog 110 #[.agg #[.int .u8 kd,.string pred,.bool back,vv,uv,sv],wv,.int .i64 nb] w fun e w'=>e = .returned (.bool (vs.any p))∧Fr N0 w w':=by
 obtain⟨a,off,cap,rfl,h1,h2,h3,h4,h5⟩:=hV
 have d2:(kd == 2)=false:=by simpa using k2
 have d11:(kd == 11)=false:=by simpa using k11
 have hany:∀ k (h:k < vs.length),p vs[k]=true→vs.any p=true:=fun k h e=>List.any_eq_true.2 ⟨_,List.getElem_mem h,e⟩
 have hnone:(∀ j (h:j < vs.length),p vs[j]=false)→vs.any p=false:=fun hh=>by
  rw[Bool.eq_false_iff];intro hx
  obtain⟨y,hy,e⟩:=List.any_eq_true.1 hx
  obtain⟨j,hj,rfl⟩:=List.getElem_of_mem hy
  rw[hh j hj] at e;cases e
 obtain⟨AV,hAV⟩:∃ AV,vs.any p=AV:=⟨_,rfl⟩
 rw[hAV] at hany hnone ⊢
 obtain⟨n,hn⟩:∃ n,vs.length=n:=⟨_,rfl⟩
 rw[hn] at h1 h3 hl ⊢
 have hf0:Fr N0 w (w.alloc (.cells #[.int .u8 kd,.string pred,.bool back,vv,uv,sv] 94)):=(Fr.refl N0 w).alloc _
 have HC:=hhd h5;have HP:=hhd hp;have HANY:=hhd hany;have HNONE:=hhd hnone;have HN:=hhd hn;have HF:=hhd hf0;have HB:=hhd (World.alloc_heap_new w (.cells #[.int .u8 kd,.string pred,.bool back,vv,uv,sv] 94))
 clear h5 h4 hp hany hnone hn hf0 hAV k2 k11
 cases back
 ·go_enter Tryz.func110,Tryz.ntmps110
  go_wp2_with fail
  generalize hW1:w.alloc _=W1 at HF HB
  try rw[hW1]
  clear hW1
  go_loopw [8] (fun iv wr=>∃ k:Nat,k≤n∧iv = .int .i64 k∧Hid (∀ j (h:j < vs.length),j < k→p vs[j]=false)∧Hid (Fr N0 W1 wr)) (fun iv _=>n - (intOf iv).toNat)
  case atStart=>exact⟨0,Nat.zero_le _,by first | rfl | go_num,fun j h hj=>by omega,Fr.refl _ _⟩
  case round=>
   obtain⟨k,hk,rfl,hn,hfr⟩:=hrel
   by_cases hlt:k < n
   ·obtain rfl:=h3 (by omega)
    have hx:k < vs.length:=by rw[HN.out];exact hlt
    have hfw:=HF.out.then0 hfr.out
    have hbx:=(hfr.out.at (k:=w.heap.size) id (lt_of_block HB.out)).trans HB.out
    have c0:=HC.out k hx 0 (by decide);have c1:=HC.out k hx 1 (by decide);have c2:=HC.out k hx 2 (by decide);have c3:=HC.out k hx 3 (by decide);have c4:=HC.out k hx 4 (by decide)
    rw[Nat.add_zero] at c0
    have hnx:p vs[k]=false→∀ j (h:j < vs.length),j < k+1→p vs[j]=false:=fun he j h hj=>by
     rcases Nat.lt_or_ge j k with h' | h'
     ·exact hn.out j h h'
     ·have:j=k:=by omega
      subst this;exact he
    have hfd:=HANY.out k hx
    have hcall:=fun W hW=>HP.out W vs[k] hW (List.getElem_mem hx)
    obtain⟨y,hy⟩:∃ y,vs[k]=y:=⟨_,rfl⟩
    simp only [hy] at c0 c1 c2 c3 c4 hnx hfd hcall
    obtain⟨P,hP⟩:∃ P,p y=P:=⟨_,rfl⟩
    rw[hP] at hnx hfd
    simp only [hP] at hcall
    obtain⟨vk,vb,vn,vs',vu⟩:=y
    simp only [Val.enc,List.getElem?_cons_zero,List.getElem?_cons_succ] at c0 c1 c2 c3 c4 hcall
    have hS0:FdS w.heap.size gb (off+k * 5) #[.int .u8 kd,.string pred,.bool false,vv,uv,sv] vk vn vu vb vs' w wr.drew:=fdS_keep (W:=wr) ⟨⟨(box_cells hbx).1,lt_of_block hbx⟩,hfw.cell id c0,hfw.cell id c1,hfw.cell id c2,hfw.cell id c3,hfw.cell id c4,hfw⟩ (Fr.refl _ _).drew
    have hki:(k:Int) < (n:Int):=by omega
    have HNX:=hhd hnx;have HFD:=hhd hfd;have HCALL:=hhd hcall;have HFR:=hhd hfr.out
    clear hnx hfd hcall hfw hbx c0 c1 c2 c3 c4 hn hfr hy hP
    go_wp2_with fail
    go_region_held3 (FdS w.heap.size gb (off+k * 5) #[.int .u8 kd,.string pred,.bool false,vv,uv,sv] vk vn vu vb vs' w) (first
     |(with_reducible assumption)
     | fail) (first
     |(go_simp;go_at_call 179;refine(HCALL.out _ hS0.2.2.2.2.2.2).mono ?_;rintro e w3 ⟨rfl,hf3⟩;have hs3:=fdS_keep hS0 hf3;have HF3:=hhd (HFR.out.then0 ((Fr.refl _ _).drew.then0 hf3)))
     | fail)
    cases P
    ·go_wp2_with fail
     go_roundw
     case rel=>exact⟨k+1,by omega,by first | rfl | go_num,HNX.out rfl,HF3.out⟩
     case measure=>simp [intOf] <;> omega
    ·have e:=HFD.out rfl
     subst e
     have HF4:=hhd hs3.2.2.2.2.2.2
     go_wp2_with fail
     go_ret
     exact⟨rfl,HF4.out⟩
   ·obtain rfl:k=n:=by omega
    have hki:¬(k:Int) < (k:Int):=by omega
    have hF:=HNONE.out fun j h=>hn.out j h (by rw[← HN.out];exact h)
    have hfw:=hhd (HF.out.then0 hfr.out)
    clear hn hfr
    subst hF
    go_wp2_with fail
    go_ret
    exact⟨rfl,hfw.out⟩
 ·go_enter Tryz.func110,Tryz.ntmps110
  go_wp2_with fail
  generalize hW1:w.alloc _=W1 at HF HB
  try rw[hW1]
  clear hW1
  go_loopw [8] (fun iv wr=>∃ k:Nat,k≤n∧iv = .int .i64 k∧Hid (∀ j (h:j < vs.length),j < k→p vs[j]=false)∧Hid (Fr N0 W1 wr)) (fun iv _=>n - (intOf iv).toNat)
  case atStart=>exact⟨0,Nat.zero_le _,by first | rfl | go_num,fun j h hj=>by omega,Fr.refl _ _⟩
  case round=>
   obtain⟨k,hk,rfl,hn,hfr⟩:=hrel
   by_cases hlt:k < n
   ·obtain rfl:=h3 (by omega)
    have hx:k < vs.length:=by rw[HN.out];exact hlt
    have hfw:=HF.out.then0 hfr.out
    have hbx:=(hfr.out.at (k:=w.heap.size) id (lt_of_block HB.out)).trans HB.out
    have c0:=HC.out k hx 0 (by decide);have c1:=HC.out k hx 1 (by decide);have c2:=HC.out k hx 2 (by decide);have c3:=HC.out k hx 3 (by decide);have c4:=HC.out k hx 4 (by decide)
    rw[Nat.add_zero] at c0
    have hnx:p vs[k]=false→∀ j (h:j < vs.length),j < k+1→p vs[j]=false:=fun he j h hj=>by
     rcases Nat.lt_or_ge j k with h' | h'
     ·exact hn.out j h h'
     ·have:j=k:=by omega
      subst this;exact he
    have hfd:=HANY.out k hx
    have hcall:=fun W hW=>HP.out W vs[k] hW (List.getElem_mem hx)
    obtain⟨y,hy⟩:∃ y,vs[k]=y:=⟨_,rfl⟩
    simp only [hy] at c0 c1 c2 c3 c4 hnx hfd hcall
    obtain⟨P,hP⟩:∃ P,p y=P:=⟨_,rfl⟩
    rw[hP] at hnx hfd
    simp only [hP] at hcall
    obtain⟨vk,vb,vn,vs',vu⟩:=y
    simp only [Val.enc,List.getElem?_cons_zero,List.getElem?_cons_succ] at c0 c1 c2 c3 c4 hcall
    have hS0:FdS w.heap.size gb (off+k * 5) #[.int .u8 kd,.string pred,.bool true,vv,uv,sv] vk vn vu vb vs' w wr.drew:=fdS_keep (W:=wr) ⟨⟨(box_cells hbx).1,lt_of_block hbx⟩,hfw.cell id c0,hfw.cell id c1,hfw.cell id c2,hfw.cell id c3,hfw.cell id c4,hfw⟩ (Fr.refl _ _).drew
    have hki:(k:Int) < (n:Int):=by omega
    have HNX:=hhd hnx;have HFD:=hhd hfd;have HCALL:=hhd hcall;have HFR:=hhd hfr.out
    clear hnx hfd hcall hfw hbx c0 c1 c2 c3 c4 hn hfr hy hP
    go_wp2_with fail
    go_region_held3 (FdS w.heap.size gb (off+k * 5) #[.int .u8 kd,.string pred,.bool true,vv,uv,sv] vk vn vu vb vs' w) (first
     |(with_reducible assumption)
     | fail) (first
     |(go_simp;go_at_call 179;refine(HCALL.out _ hS0.2.2.2.2.2.2).mono ?_;rintro e w3 ⟨rfl,hf3⟩;have hs3:=fdS_keep hS0 hf3;have HF3:=hhd (HFR.out.then0 ((Fr.refl _ _).drew.then0 hf3)))
     | fail)
    cases P
    ·go_wp2_with fail
     go_roundw
     case rel=>exact⟨k+1,by omega,by first | rfl | go_num,HNX.out rfl,HF3.out⟩
     case measure=>simp [intOf] <;> omega
    ·have e:=HFD.out rfl
     subst e
     have HF4:=hhd hs3.2.2.2.2.2.2
     go_wp2_with fail
     go_ret
     exact⟨rfl,HF4.out⟩
   ·obtain rfl:k=n:=by omega
    have hki:¬(k:Int) < (k:Int):=by omega
    have hF:=HNONE.out fun j h=>hn.out j h (by rw[← HN.out];exact h)
    have hfw:=hhd (HF.out.then0 hfr.out)
    clear hn hfr
    subst hF
    go_wp2_with fail
    go_ret
    exact⟨rfl,hfw.out⟩
end
end Go.Proofs.YtefepfiijoafbaaGreat
