/- FitC FitD -/
import Derived.Deep.RegionLaw
import Derived.Test.YtefepfiijoafbaaGreatQFitB
import Derived.Test.YtefepfiijoafbaaGreatQValR
set_option linter.unusedVariables false
set_option linter.unusedSimpArgs false
set_option maxRecDepth 100000
set_option maxHeartbeats 4000000
namespace Go.Proofs.YtefepfiijoafbaaGreat
open Go.RowKit Go.Shelf Go.Maps Go.Sort
attribute [local go_sem] Oper.semAt_some
attribute [local irreducible] wpQuiet
theorem ifits_3(w:World)(s:Sch)(back:Bool)(uv sv:Value)(vb voff n vc:Nat)(kv:Int)(hc:w.cell? ⟨vb,voff,none⟩=some (.int .u8 kv))(hn:0 < n)
  (HM:Hid (∀ w',Fr N0 w w'→Calls Tryz.prog 38 #[.agg #[.int .u8 3,.string s.pred,.bool back,.slice (some ⟨vb,voff,none⟩) n vc,uv,sv]] w' fun e w2=>e = .returned (.int .i64 0)∧Fr N0 w' w2))
  (HS:Hid (∀ w',Fr N0 w w'→Calls Tryz.prog 91 #[.agg s.enc.toArray] w' fun e w2=>e = .returned (.int .i64 0)∧Fr N0 w' w2)) :
  Calls Tryz.prog 39 #[.agg s.enc.toArray,.agg #[.int .u8 3,.string s.pred,.bool back,.slice (some ⟨vb,voff,none⟩) n vc,uv,sv]] w fun e w'=>e = .returned (.int .i64 (fitR (s.ty == kv) s.exact_ back (s.ty != 4) s.rev))∧Fr N0 w w':=by
 obtain⟨sp,st,sl,se,sm,so,sr,sc⟩:=s
 simp only [Sch.enc] at *
 obtain⟨n4,hn4⟩:∃ x,(st != 4)=x:=⟨_,rfl⟩
 rw[hn4]
 have hn0:(0:Int) < (n:Int):=by omega
 obtain⟨q,hq⟩:∃ x,(st == kv)=x:=⟨_,rfl⟩
 rw[hq]
 cases q
 ·clear hn4
  go_enter Tryz.func39,Tryz.ntmps39
  go_wp2_with (first
    |(go_at_call 38;refine(HM.out _ (((Fr.refl _ _).alloc _).alloc _)).mono ?_;rintro e w1 ⟨rfl,hf1⟩;obtain⟨b1,b2⟩:=two_boxes hf1;obtain⟨m1,n1,l1⟩:=box_cells b1;obtain⟨m2,n2,l2⟩:=box_cells b2;have hg1:=(((Fr.refl N0 w).alloc _).alloc _).then0 hf1)
    |(go_at_call 91;refine(HS.out _ hg1).mono ?_;rintro e w2 ⟨rfl,hf2⟩;obtain⟨b3,b4⟩:=two_boxes (hf1.then0 hf2);obtain⟨m3,n3,l3⟩:=box_cells b3;obtain⟨m4,n4,l4⟩:=box_cells b4;have hc2:=(hg1.then0 hf2).cell id hc))
  go_quiet (fail)
  go_wp2
  go_ret
  exact⟨by simp [fitR],by first | exact hg1.then0 hf2 | exact(hg1.then0 hf2).drewN _⟩
 cases se
 ·clear hn4
  go_enter Tryz.func39,Tryz.ntmps39
  go_wp2_with (first
    |(go_at_call 38;refine(HM.out _ (((Fr.refl _ _).alloc _).alloc _)).mono ?_;rintro e w1 ⟨rfl,hf1⟩;obtain⟨b1,b2⟩:=two_boxes hf1;obtain⟨m1,n1,l1⟩:=box_cells b1;obtain⟨m2,n2,l2⟩:=box_cells b2;have hg1:=(((Fr.refl N0 w).alloc _).alloc _).then0 hf1)
    |(go_at_call 91;refine(HS.out _ hg1).mono ?_;rintro e w2 ⟨rfl,hf2⟩;obtain⟨b3,b4⟩:=two_boxes (hf1.then0 hf2);obtain⟨m3,n3,l3⟩:=box_cells b3;obtain⟨m4,n4,l4⟩:=box_cells b4;have hc2:=(hg1.then0 hf2).cell id hc))
  go_quiet (fail)
  go_wp2
  go_ret
  exact⟨by simp [fitR],by first | exact hg1.then0 hf2 | exact(hg1.then0 hf2).drewN _⟩
 cases back
 ·clear hn4
  go_enter Tryz.func39,Tryz.ntmps39
  go_wp2_with (first
    |(go_at_call 38;refine(HM.out _ (((Fr.refl _ _).alloc _).alloc _)).mono ?_;rintro e w1 ⟨rfl,hf1⟩;obtain⟨b1,b2⟩:=two_boxes hf1;obtain⟨m1,n1,l1⟩:=box_cells b1;obtain⟨m2,n2,l2⟩:=box_cells b2;have hg1:=(((Fr.refl N0 w).alloc _).alloc _).then0 hf1)
    |(go_at_call 91;refine(HS.out _ hg1).mono ?_;rintro e w2 ⟨rfl,hf2⟩;obtain⟨b3,b4⟩:=two_boxes (hf1.then0 hf2);obtain⟨m3,n3,l3⟩:=box_cells b3;obtain⟨m4,n4,l4⟩:=box_cells b4;have hc2:=(hg1.then0 hf2).cell id hc))
  go_quiet (fail)
  go_wp2
  go_ret
  exact⟨by simp [fitR],by first | exact hg1.then0 hf2 | exact(hg1.then0 hf2).drewN _⟩
 cases n4
 ·cases sr
  all_goals
   go_enter Tryz.func39,Tryz.ntmps39
   go_wp2_with (first
     |(go_at_call 38;refine(HM.out _ (((Fr.refl _ _).alloc _).alloc _)).mono ?_;rintro e w1 ⟨rfl,hf1⟩;obtain⟨b1,b2⟩:=two_boxes hf1;obtain⟨m1,n1,l1⟩:=box_cells b1;obtain⟨m2,n2,l2⟩:=box_cells b2;have hg1:=(((Fr.refl N0 w).alloc _).alloc _).then0 hf1)
     |(go_at_call 91;refine(HS.out _ hg1).mono ?_;rintro e w2 ⟨rfl,hf2⟩;obtain⟨b3,b4⟩:=two_boxes (hf1.then0 hf2);obtain⟨m3,n3,l3⟩:=box_cells b3;obtain⟨m4,n4,l4⟩:=box_cells b4;have hc2:=(hg1.then0 hf2).cell id hc))
   go_quiet (fail)
   go_wp2
   go_ret
   exact⟨by simp [fitR],by first | exact hg1.then0 hf2 | exact(hg1.then0 hf2).drewN _⟩
 ·skip
  go_enter Tryz.func39,Tryz.ntmps39
  go_wp2_with (first
    |(go_at_call 38;refine(HM.out _ (((Fr.refl _ _).alloc _).alloc _)).mono ?_;rintro e w1 ⟨rfl,hf1⟩;obtain⟨b1,b2⟩:=two_boxes hf1;obtain⟨m1,n1,l1⟩:=box_cells b1;obtain⟨m2,n2,l2⟩:=box_cells b2;have hg1:=(((Fr.refl N0 w).alloc _).alloc _).then0 hf1)
    |(go_at_call 91;refine(HS.out _ hg1).mono ?_;rintro e w2 ⟨rfl,hf2⟩;obtain⟨b3,b4⟩:=two_boxes (hf1.then0 hf2);obtain⟨m3,n3,l3⟩:=box_cells b3;obtain⟨m4,n4,l4⟩:=box_cells b4;have hc2:=(hg1.then0 hf2).cell id hc))
  go_quiet (fail)
  go_wp2
  go_ret
  exact⟨by simp [fitR],by first | exact hg1.then0 hf2 | exact(hg1.then0 hf2).drewN _⟩
theorem ifits_6(w:World)(s:Sch)(back:Bool)(uv sv:Value)(vv:Value)
  (HM:Hid (∀ w',Fr N0 w w'→Calls Tryz.prog 38 #[.agg #[.int .u8 6,.string s.pred,.bool back,vv,uv,sv]] w' fun e w2=>e = .returned (.int .i64 0)∧Fr N0 w' w2))
  (HS:Hid (∀ w',Fr N0 w w'→Calls Tryz.prog 91 #[.agg s.enc.toArray] w' fun e w2=>e = .returned (.int .i64 0)∧Fr N0 w' w2)) :
  Calls Tryz.prog 39 #[.agg s.enc.toArray,.agg #[.int .u8 6,.string s.pred,.bool back,vv,uv,sv]] w fun e w'=>e = .returned (.int .i64 (fitR (s.ty == 2) s.order back (s.ty != 4) s.rev))∧Fr N0 w w':=by
 obtain⟨sp,st,sl,se,sm,so,sr,sc⟩:=s
 simp only [Sch.enc] at *
 obtain⟨n4,hn4⟩:∃ x,(st != 4)=x:=⟨_,rfl⟩
 rw[hn4]
 obtain⟨q,hq⟩:∃ x,(st == 2)=x:=⟨_,rfl⟩
 rw[hq]
 cases q
 ·clear hn4
  go_enter Tryz.func39,Tryz.ntmps39
  go_wp2_with (first
    |(go_at_call 38;refine(HM.out _ (((Fr.refl _ _).alloc _).alloc _)).mono ?_;rintro e w1 ⟨rfl,hf1⟩;obtain⟨b1,b2⟩:=two_boxes hf1;obtain⟨m1,n1,l1⟩:=box_cells b1;obtain⟨m2,n2,l2⟩:=box_cells b2;have hg1:=(((Fr.refl N0 w).alloc _).alloc _).then0 hf1)
    |(go_at_call 91;refine(HS.out _ hg1).mono ?_;rintro e w2 ⟨rfl,hf2⟩;obtain⟨b3,b4⟩:=two_boxes (hf1.then0 hf2);obtain⟨m3,n3,l3⟩:=box_cells b3;obtain⟨m4,n4,l4⟩:=box_cells b4))
  go_quiet (fail)
  go_wp2
  go_ret
  exact⟨by simp [fitR],by first | exact hg1.then0 hf2 | exact(hg1.then0 hf2).drewN _⟩
 cases so
 ·clear hn4
  go_enter Tryz.func39,Tryz.ntmps39
  go_wp2_with (first
    |(go_at_call 38;refine(HM.out _ (((Fr.refl _ _).alloc _).alloc _)).mono ?_;rintro e w1 ⟨rfl,hf1⟩;obtain⟨b1,b2⟩:=two_boxes hf1;obtain⟨m1,n1,l1⟩:=box_cells b1;obtain⟨m2,n2,l2⟩:=box_cells b2;have hg1:=(((Fr.refl N0 w).alloc _).alloc _).then0 hf1)
    |(go_at_call 91;refine(HS.out _ hg1).mono ?_;rintro e w2 ⟨rfl,hf2⟩;obtain⟨b3,b4⟩:=two_boxes (hf1.then0 hf2);obtain⟨m3,n3,l3⟩:=box_cells b3;obtain⟨m4,n4,l4⟩:=box_cells b4))
  go_quiet (fail)
  go_wp2
  go_ret
  exact⟨by simp [fitR],by first | exact hg1.then0 hf2 | exact(hg1.then0 hf2).drewN _⟩
 cases back
 ·clear hn4
  go_enter Tryz.func39,Tryz.ntmps39
  go_wp2_with (first
    |(go_at_call 38;refine(HM.out _ (((Fr.refl _ _).alloc _).alloc _)).mono ?_;rintro e w1 ⟨rfl,hf1⟩;obtain⟨b1,b2⟩:=two_boxes hf1;obtain⟨m1,n1,l1⟩:=box_cells b1;obtain⟨m2,n2,l2⟩:=box_cells b2;have hg1:=(((Fr.refl N0 w).alloc _).alloc _).then0 hf1)
    |(go_at_call 91;refine(HS.out _ hg1).mono ?_;rintro e w2 ⟨rfl,hf2⟩;obtain⟨b3,b4⟩:=two_boxes (hf1.then0 hf2);obtain⟨m3,n3,l3⟩:=box_cells b3;obtain⟨m4,n4,l4⟩:=box_cells b4))
  go_quiet (fail)
  go_wp2
  go_ret
  exact⟨by simp [fitR],by first | exact hg1.then0 hf2 | exact(hg1.then0 hf2).drewN _⟩
 cases n4
 ·cases sr
  all_goals
   go_enter Tryz.func39,Tryz.ntmps39
   go_wp2_with (first
     |(go_at_call 38;refine(HM.out _ (((Fr.refl _ _).alloc _).alloc _)).mono ?_;rintro e w1 ⟨rfl,hf1⟩;obtain⟨b1,b2⟩:=two_boxes hf1;obtain⟨m1,n1,l1⟩:=box_cells b1;obtain⟨m2,n2,l2⟩:=box_cells b2;have hg1:=(((Fr.refl N0 w).alloc _).alloc _).then0 hf1)
     |(go_at_call 91;refine(HS.out _ hg1).mono ?_;rintro e w2 ⟨rfl,hf2⟩;obtain⟨b3,b4⟩:=two_boxes (hf1.then0 hf2);obtain⟨m3,n3,l3⟩:=box_cells b3;obtain⟨m4,n4,l4⟩:=box_cells b4))
   go_quiet (fail)
   go_wp2
   go_ret
   exact⟨by simp [fitR],by first | exact hg1.then0 hf2 | exact(hg1.then0 hf2).drewN _⟩
 ·skip
  go_enter Tryz.func39,Tryz.ntmps39
  go_wp2_with (first
    |(go_at_call 38;refine(HM.out _ (((Fr.refl _ _).alloc _).alloc _)).mono ?_;rintro e w1 ⟨rfl,hf1⟩;obtain⟨b1,b2⟩:=two_boxes hf1;obtain⟨m1,n1,l1⟩:=box_cells b1;obtain⟨m2,n2,l2⟩:=box_cells b2;have hg1:=(((Fr.refl N0 w).alloc _).alloc _).then0 hf1)
    |(go_at_call 91;refine(HS.out _ hg1).mono ?_;rintro e w2 ⟨rfl,hf2⟩;obtain⟨b3,b4⟩:=two_boxes (hf1.then0 hf2);obtain⟨m3,n3,l3⟩:=box_cells b3;obtain⟨m4,n4,l4⟩:=box_cells b4))
  go_quiet (fail)
  go_wp2
  go_ret
  exact⟨by simp [fitR],by first | exact hg1.then0 hf2 | exact(hg1.then0 hf2).drewN _⟩
theorem ifits_7(w:World)(s:Sch)(back:Bool)(uv sv:Value)(vv:Value)
  (HM:Hid (∀ w',Fr N0 w w'→Calls Tryz.prog 38 #[.agg #[.int .u8 7,.string s.pred,.bool back,vv,uv,sv]] w' fun e w2=>e = .returned (.int .i64 0)∧Fr N0 w' w2))
  (HS:Hid (∀ w',Fr N0 w w'→Calls Tryz.prog 91 #[.agg s.enc.toArray] w' fun e w2=>e = .returned (.int .i64 0)∧Fr N0 w' w2)) :
  Calls Tryz.prog 39 #[.agg s.enc.toArray,.agg #[.int .u8 7,.string s.pred,.bool back,vv,uv,sv]] w fun e w'=>e = .returned (.int .i64 (fitR (s.ty == 2) s.order back (s.ty != 4) s.rev))∧Fr N0 w w':=by
 obtain⟨sp,st,sl,se,sm,so,sr,sc⟩:=s
 simp only [Sch.enc] at *
 obtain⟨n4,hn4⟩:∃ x,(st != 4)=x:=⟨_,rfl⟩
 rw[hn4]
 obtain⟨q,hq⟩:∃ x,(st == 2)=x:=⟨_,rfl⟩
 rw[hq]
 cases q
 ·clear hn4
  go_enter Tryz.func39,Tryz.ntmps39
  go_wp2_with (first
    |(go_at_call 38;refine(HM.out _ (((Fr.refl _ _).alloc _).alloc _)).mono ?_;rintro e w1 ⟨rfl,hf1⟩;obtain⟨b1,b2⟩:=two_boxes hf1;obtain⟨m1,n1,l1⟩:=box_cells b1;obtain⟨m2,n2,l2⟩:=box_cells b2;have hg1:=(((Fr.refl N0 w).alloc _).alloc _).then0 hf1)
    |(go_at_call 91;refine(HS.out _ hg1).mono ?_;rintro e w2 ⟨rfl,hf2⟩;obtain⟨b3,b4⟩:=two_boxes (hf1.then0 hf2);obtain⟨m3,n3,l3⟩:=box_cells b3;obtain⟨m4,n4,l4⟩:=box_cells b4))
  go_quiet (fail)
  go_wp2
  go_ret
  exact⟨by simp [fitR],by first | exact hg1.then0 hf2 | exact(hg1.then0 hf2).drewN _⟩
 cases so
 ·clear hn4
  go_enter Tryz.func39,Tryz.ntmps39
  go_wp2_with (first
    |(go_at_call 38;refine(HM.out _ (((Fr.refl _ _).alloc _).alloc _)).mono ?_;rintro e w1 ⟨rfl,hf1⟩;obtain⟨b1,b2⟩:=two_boxes hf1;obtain⟨m1,n1,l1⟩:=box_cells b1;obtain⟨m2,n2,l2⟩:=box_cells b2;have hg1:=(((Fr.refl N0 w).alloc _).alloc _).then0 hf1)
    |(go_at_call 91;refine(HS.out _ hg1).mono ?_;rintro e w2 ⟨rfl,hf2⟩;obtain⟨b3,b4⟩:=two_boxes (hf1.then0 hf2);obtain⟨m3,n3,l3⟩:=box_cells b3;obtain⟨m4,n4,l4⟩:=box_cells b4))
  go_quiet (fail)
  go_wp2
  go_ret
  exact⟨by simp [fitR],by first | exact hg1.then0 hf2 | exact(hg1.then0 hf2).drewN _⟩
 cases back
 ·clear hn4
  go_enter Tryz.func39,Tryz.ntmps39
  go_wp2_with (first
    |(go_at_call 38;refine(HM.out _ (((Fr.refl _ _).alloc _).alloc _)).mono ?_;rintro e w1 ⟨rfl,hf1⟩;obtain⟨b1,b2⟩:=two_boxes hf1;obtain⟨m1,n1,l1⟩:=box_cells b1;obtain⟨m2,n2,l2⟩:=box_cells b2;have hg1:=(((Fr.refl N0 w).alloc _).alloc _).then0 hf1)
    |(go_at_call 91;refine(HS.out _ hg1).mono ?_;rintro e w2 ⟨rfl,hf2⟩;obtain⟨b3,b4⟩:=two_boxes (hf1.then0 hf2);obtain⟨m3,n3,l3⟩:=box_cells b3;obtain⟨m4,n4,l4⟩:=box_cells b4))
  go_quiet (fail)
  go_wp2
  go_ret
  exact⟨by simp [fitR],by first | exact hg1.then0 hf2 | exact(hg1.then0 hf2).drewN _⟩
 cases n4
 ·cases sr
  all_goals
   go_enter Tryz.func39,Tryz.ntmps39
   go_wp2_with (first
     |(go_at_call 38;refine(HM.out _ (((Fr.refl _ _).alloc _).alloc _)).mono ?_;rintro e w1 ⟨rfl,hf1⟩;obtain⟨b1,b2⟩:=two_boxes hf1;obtain⟨m1,n1,l1⟩:=box_cells b1;obtain⟨m2,n2,l2⟩:=box_cells b2;have hg1:=(((Fr.refl N0 w).alloc _).alloc _).then0 hf1)
     |(go_at_call 91;refine(HS.out _ hg1).mono ?_;rintro e w2 ⟨rfl,hf2⟩;obtain⟨b3,b4⟩:=two_boxes (hf1.then0 hf2);obtain⟨m3,n3,l3⟩:=box_cells b3;obtain⟨m4,n4,l4⟩:=box_cells b4))
   go_quiet (fail)
   go_wp2
   go_ret
   exact⟨by simp [fitR],by first | exact hg1.then0 hf2 | exact(hg1.then0 hf2).drewN _⟩
 ·skip
  go_enter Tryz.func39,Tryz.ntmps39
  go_wp2_with (first
    |(go_at_call 38;refine(HM.out _ (((Fr.refl _ _).alloc _).alloc _)).mono ?_;rintro e w1 ⟨rfl,hf1⟩;obtain⟨b1,b2⟩:=two_boxes hf1;obtain⟨m1,n1,l1⟩:=box_cells b1;obtain⟨m2,n2,l2⟩:=box_cells b2;have hg1:=(((Fr.refl N0 w).alloc _).alloc _).then0 hf1)
    |(go_at_call 91;refine(HS.out _ hg1).mono ?_;rintro e w2 ⟨rfl,hf2⟩;obtain⟨b3,b4⟩:=two_boxes (hf1.then0 hf2);obtain⟨m3,n3,l3⟩:=box_cells b3;obtain⟨m4,n4,l4⟩:=box_cells b4))
  go_quiet (fail)
  go_wp2
  go_ret
  exact⟨by simp [fitR],by first | exact hg1.then0 hf2 | exact(hg1.then0 hf2).drewN _⟩
theorem ifits_8(w:World)(s:Sch)(back:Bool)(uv sv:Value)(vv:Value)
  (HM:Hid (∀ w',Fr N0 w w'→Calls Tryz.prog 38 #[.agg #[.int .u8 8,.string s.pred,.bool back,vv,uv,sv]] w' fun e w2=>e = .returned (.int .i64 0)∧Fr N0 w' w2))
  (HS:Hid (∀ w',Fr N0 w w'→Calls Tryz.prog 91 #[.agg s.enc.toArray] w' fun e w2=>e = .returned (.int .i64 0)∧Fr N0 w' w2)) :
  Calls Tryz.prog 39 #[.agg s.enc.toArray,.agg #[.int .u8 8,.string s.pred,.bool back,vv,uv,sv]] w fun e w'=>e = .returned (.int .i64 (fitR (s.ty == 2) s.order back (s.ty != 4) s.rev))∧Fr N0 w w':=by
 obtain⟨sp,st,sl,se,sm,so,sr,sc⟩:=s
 simp only [Sch.enc] at *
 obtain⟨n4,hn4⟩:∃ x,(st != 4)=x:=⟨_,rfl⟩
 rw[hn4]
 obtain⟨q,hq⟩:∃ x,(st == 2)=x:=⟨_,rfl⟩
 rw[hq]
 cases q
 ·clear hn4
  go_enter Tryz.func39,Tryz.ntmps39
  go_wp2_with (first
    |(go_at_call 38;refine(HM.out _ (((Fr.refl _ _).alloc _).alloc _)).mono ?_;rintro e w1 ⟨rfl,hf1⟩;obtain⟨b1,b2⟩:=two_boxes hf1;obtain⟨m1,n1,l1⟩:=box_cells b1;obtain⟨m2,n2,l2⟩:=box_cells b2;have hg1:=(((Fr.refl N0 w).alloc _).alloc _).then0 hf1)
    |(go_at_call 91;refine(HS.out _ hg1).mono ?_;rintro e w2 ⟨rfl,hf2⟩;obtain⟨b3,b4⟩:=two_boxes (hf1.then0 hf2);obtain⟨m3,n3,l3⟩:=box_cells b3;obtain⟨m4,n4,l4⟩:=box_cells b4))
  go_quiet (fail)
  go_wp2
  go_ret
  exact⟨by simp [fitR],by first | exact hg1.then0 hf2 | exact(hg1.then0 hf2).drewN _⟩
 cases so
 ·clear hn4
  go_enter Tryz.func39,Tryz.ntmps39
  go_wp2_with (first
    |(go_at_call 38;refine(HM.out _ (((Fr.refl _ _).alloc _).alloc _)).mono ?_;rintro e w1 ⟨rfl,hf1⟩;obtain⟨b1,b2⟩:=two_boxes hf1;obtain⟨m1,n1,l1⟩:=box_cells b1;obtain⟨m2,n2,l2⟩:=box_cells b2;have hg1:=(((Fr.refl N0 w).alloc _).alloc _).then0 hf1)
    |(go_at_call 91;refine(HS.out _ hg1).mono ?_;rintro e w2 ⟨rfl,hf2⟩;obtain⟨b3,b4⟩:=two_boxes (hf1.then0 hf2);obtain⟨m3,n3,l3⟩:=box_cells b3;obtain⟨m4,n4,l4⟩:=box_cells b4))
  go_quiet (fail)
  go_wp2
  go_ret
  exact⟨by simp [fitR],by first | exact hg1.then0 hf2 | exact(hg1.then0 hf2).drewN _⟩
 cases back
 ·clear hn4
  go_enter Tryz.func39,Tryz.ntmps39
  go_wp2_with (first
    |(go_at_call 38;refine(HM.out _ (((Fr.refl _ _).alloc _).alloc _)).mono ?_;rintro e w1 ⟨rfl,hf1⟩;obtain⟨b1,b2⟩:=two_boxes hf1;obtain⟨m1,n1,l1⟩:=box_cells b1;obtain⟨m2,n2,l2⟩:=box_cells b2;have hg1:=(((Fr.refl N0 w).alloc _).alloc _).then0 hf1)
    |(go_at_call 91;refine(HS.out _ hg1).mono ?_;rintro e w2 ⟨rfl,hf2⟩;obtain⟨b3,b4⟩:=two_boxes (hf1.then0 hf2);obtain⟨m3,n3,l3⟩:=box_cells b3;obtain⟨m4,n4,l4⟩:=box_cells b4))
  go_quiet (fail)
  go_wp2
  go_ret
  exact⟨by simp [fitR],by first | exact hg1.then0 hf2 | exact(hg1.then0 hf2).drewN _⟩
 cases n4
 ·cases sr
  all_goals
   go_enter Tryz.func39,Tryz.ntmps39
   go_wp2_with (first
     |(go_at_call 38;refine(HM.out _ (((Fr.refl _ _).alloc _).alloc _)).mono ?_;rintro e w1 ⟨rfl,hf1⟩;obtain⟨b1,b2⟩:=two_boxes hf1;obtain⟨m1,n1,l1⟩:=box_cells b1;obtain⟨m2,n2,l2⟩:=box_cells b2;have hg1:=(((Fr.refl N0 w).alloc _).alloc _).then0 hf1)
     |(go_at_call 91;refine(HS.out _ hg1).mono ?_;rintro e w2 ⟨rfl,hf2⟩;obtain⟨b3,b4⟩:=two_boxes (hf1.then0 hf2);obtain⟨m3,n3,l3⟩:=box_cells b3;obtain⟨m4,n4,l4⟩:=box_cells b4))
   go_quiet (fail)
   go_wp2
   go_ret
   exact⟨by simp [fitR],by first | exact hg1.then0 hf2 | exact(hg1.then0 hf2).drewN _⟩
 ·skip
  go_enter Tryz.func39,Tryz.ntmps39
  go_wp2_with (first
    |(go_at_call 38;refine(HM.out _ (((Fr.refl _ _).alloc _).alloc _)).mono ?_;rintro e w1 ⟨rfl,hf1⟩;obtain⟨b1,b2⟩:=two_boxes hf1;obtain⟨m1,n1,l1⟩:=box_cells b1;obtain⟨m2,n2,l2⟩:=box_cells b2;have hg1:=(((Fr.refl N0 w).alloc _).alloc _).then0 hf1)
    |(go_at_call 91;refine(HS.out _ hg1).mono ?_;rintro e w2 ⟨rfl,hf2⟩;obtain⟨b3,b4⟩:=two_boxes (hf1.then0 hf2);obtain⟨m3,n3,l3⟩:=box_cells b3;obtain⟨m4,n4,l4⟩:=box_cells b4))
  go_quiet (fail)
  go_wp2
  go_ret
  exact⟨by simp [fitR],by first | exact hg1.then0 hf2 | exact(hg1.then0 hf2).drewN _⟩
end Go.Proofs.YtefepfiijoafbaaGreat
