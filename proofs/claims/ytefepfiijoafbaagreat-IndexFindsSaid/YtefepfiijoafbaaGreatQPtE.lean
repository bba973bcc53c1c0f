/- PtP PtF PtA PtC PtD PtE -/
import Derived.Deep.DrawnRows
import Derived.Deep.RegionHeld3
import Derived.Test.YtefepfiijoafbaaGreatQFitB
import Derived.Test.YtefepfiijoafbaaGreatQLxO
import Derived.Test.YtefepfiijoafbaaGreatQValO
import Derived.Test.YtefepfiijoafbaaGreatQFindK
import Derived.Test.YtefepfiijoafbaaGreatQLy1
import Derived.Test.YtefepfiijoafbaaGreatQLy4
import Derived.Test.YtefepfiijoafbaaGreatQArgC
set_option linter.unusedVariables false
set_option linter.unusedSimpArgs false
set_option maxRecDepth 100000
namespace Go.Proofs.YtefepfiijoafbaaGreat
section
theorem wf_u64{a:Int}(h:0≤a∧a < 18446744073709551616):(Lit.int .u64 a).wf=true:=by
 have:(decide (IntKind.u64.min≤a) && decide (a≤IntKind.u64.max))=true:=by
  have h1:IntKind.u64.min=0:=by decide
  have h2:IntKind.u64.max=18446744073709551615:=by decide
  rw[h1,h2,Bool.and_eq_true,decide_eq_true_eq,decide_eq_true_eq];omega
 exact this
theorem fitE_zero{s:Sch}{x:Wr}(h:fitE s x=0):trMay x=0∧x.pred=s.pred∧x.val.k=s.ty:=by
 unfold fitE at h
 split at h
 ·contradiction
 ·split at h
  ·contradiction
  ·split at h
   ·cases h
   ·split at h
    ·cases h
    ·rename_i h2 h3 h4
     exact⟨Classical.not_not.1 h2,Classical.not_not.1 h3,Classical.not_not.1 h4⟩
theorem trMay_val{x:Wr}(h:trMay x=0):valMay x.val=true:=by
 unfold trMay at h
 split at h
 ·cases h
 ·split at h
  ·cases h
  ·split at h
   ·cases h
   ·rename_i h3;simpa using h3
theorem firstNZ_all{L:List Int}(h:firstNZ L=0):∀ x ∈ L,x=0:=by
 induction L with
 | nil=>simp
 | cons y L ih=>
  unfold firstNZ at h
  split at h
  ·rename_i hy
   intro x hx
   rcases List.mem_cons.1 hx with rfl | hx
   ·exact hy
   ·exact ih h x hx
  ·rename_i hy;exact absurd h hy
theorem addErr_zero{l:PL}{c:Cm}(h:addErr l c=0):c.writes.length≤256∧∀ x ∈ c.writes,fitE l.s x=0:=by
 unfold addErr at h
 split at h
 ·cases h
 ·rename_i h0
  split at h
  ·rename_i h1;exact absurd h h1
  ·rename_i h1
   refine⟨by
    have:¬ 256 < c.writes.length:=fun h=>h0 (.inr (.inr h))
    omega,fun x hx=>firstNZ_all (Classical.not_not.1 h1) _ (List.mem_map_of_mem hx)⟩
structure Built(s:Sch)(l:PL)(N:Nat):Prop where
 sch:l.s=s
 marked:l.marked=0
 fine:l.Fine s.pred N
 fits:∀ c ∈ l.commits,∀ x ∈ c.writes,fitE s x=0∧x.ok
theorem Built.new{s:Sch}(h:schMay s=0):Built s { s:=s } 0 where
 sch:=rfl
 marked:=rfl
 fine:=⟨⟨List.Pairwise.nil,List.Pairwise.nil,fun c h=>(by cases h)⟩,rfl,h,fun t h=>(by cases h),Nat.le_refl _,Nat.le_refl _,fun c h=>(by cases h)⟩
 fits:=fun c h=>by cases h
theorem Built.mono{s:Sch}{l:PL}{N M:Nat}(h:Built s l N)(hM:N≤M):Built s l M:=⟨h.sch,h.marked,h.fine.mono hM,h.fits⟩
theorem Built.add{s:Sch}{l:PL}{N:Nat}(h:Built s l N)(c:Cm)(ht:(Lit.int .u64 c.time).wf=true)(hw:∀ x ∈ c.writes,x.ok):Built s (addPL l c).1 (N+1):=by
 unfold addPL
 split
 ·rename_i h0
  obtain⟨h1,h2⟩:=addErr_zero h0
  refine⟨h.sch,h.marked,addIn_fine h.fine h0 ht h1 fun y hy=>(hw y hy).wf,fun d hd x hx=>?_⟩
  rcases insBy_mem.1 hd with rfl | hd
  ·exact⟨h.sch ▸ h2 x hx,hw x hx⟩
  ·exact h.fits d hd x hx
 ·exact h.mono (Nat.le_succ _)
theorem wsOf_mem{cs:List Cm}{x:Wr}(h:x ∈ wsOf cs):∃ c ∈ cs,x ∈ c.writes:=by
 unfold wsOf at h;exact List.mem_flatMap.1 h
theorem wsOf_len:∀ {cs:List Cm},(∀ c ∈ cs,c.writes.length≤256)→(wsOf cs).length≤256 * cs.length
 | [],_=>by simp [wsOf]
 | c :: cs,h=>by
  have h1:=wsOf_len (cs:=cs) fun d hd=>h d (by simp [hd])
  have h2:=h c (by simp)
  unfold wsOf at h1 ⊢
  rw[List.flatMap_cons,List.length_append,List.length_cons]
  omega
theorem Built.at{s:Sch}{l:PL}{N:Nat}(h:Built s l N):l.AtOk (256 * N) where
 pred:=h.fine.size'
 ok:=fun x hx=>by
  obtain⟨c,hc,hx⟩:=wsOf_mem hx
  obtain⟨h1,h2⟩:=h.fits c hc x hx
  exact⟨wf_u64 h2.1,trMay_val (fitE_zero h1).1,wf_u64 h2.2.2.2⟩
 len:=Nat.le_trans (wsOf_len fun c hc=>(h.fine.writes c hc).1) (Nat.mul_le_mul_left _ h.fine.commits)
 commits:=by have:=h.fine.commits;omega
theorem haveOf_val(list:Bool)(ws:List Wr){u:Int}{v:Val}(h:v ∈ haveOf list ws u):∃ x ∈ ws,x.val=v:=by
 revert h
 refine list_snoc (C:=fun ws=>v ∈ haveOf list ws u→∃ x ∈ ws,x.val=v) (by simp [haveOf]) (fun ws x ih h=>?_) ws
 rw[haveOf_snoc] at h
 have hold:v ∈ haveOf list ws u→∃ y ∈ ws ++ [x],y.val=v:=fun h=>by
  obtain⟨y,hy,e⟩:=ih h
  exact⟨y,List.mem_append_left _ hy,e⟩
 unfold hWrite at h
 by_cases e:u=x.uid
 ·subst e
  rw[updV_same] at h
  rcases wrV_mem h with rfl | h
  ·exact⟨x,by simp,rfl⟩
  ·exact hold h
 ·rw[updV_other e] at h
  exact hold h
section
variable {s:Sch} {l:PL} {N:Nat} (h:Built s l N) (t:Int)
include h
end
theorem val_node{v:Val}(h:valMay v=true)(hk:v.k=4):v=nodeV v.u:=by
 obtain⟨k,b,n,s,u⟩:=v
 simp only at hk
 subst hk
 simp [valMay] at h
 obtain⟨⟨⟨h1,h2⟩,h3⟩,h4⟩:=h
 simp [nodeV,h1,h2,h3];rfl
def OneNum(H:Int→List Val):Prop:=∀ u,H u = []∨∃ n,H u = [numV n]
section
variable {H:Int→List Val} (h1:OneNum H) {A B C:List Int} (hA:RisesBy id A) (hB:RisesBy id B) (hC:RisesBy id C)
include h1 hA hB hC
end
end
section
open Go.RowKit Go.Shelf Go.Maps
attribute [local go_sem] Oper.semAt_some
attribute [local irreducible] wpQuiet
structure AgeL(W:World)(R:Nat→Prop)(p:Nat)(l:PL)(N:Nat):Prop where
 pl:IsPL W R p l
 lt:∀ k,R k→k < W.heap.size
 built:Built cAge l N
 n:N≤1000
section
variable {W:World} {R:Nat→Prop} {p:Nat} {l:PL} {N:Nat} (h:AgeL W R p l N) (t a b:Int)
include h
omit h in
end
end
section
open Go.RowKit Go.Shelf Go.Maps
attribute [local go_sem] Oper.semAt_some
attribute [local go_sem ↓] Go.wp_at_zero Go.wp_at_succ
attribute [local irreducible] wpQuiet
def cFr2:Sch:=⟨bFri,4,true,false,false,false,true,false⟩
section
variable {w W:World} {BR B5 B11 p1 p2:Nat} {R1 R2:Nat→Prop} {l m:PL} {n:Nat} {t:Int}
end
end
section
open Go.RowKit Go.Shelf Go.Maps

end
section
open Go.RowKit Go.Shelf Go.Maps
attribute [local go_sem] Oper.semAt_some
attribute [local go_sem ↓] Go.wp_at_zero Go.wp_at_succ
attribute [local irreducible] wpQuiet
section
variable {W:World} {R:Nat→Prop} {p:Nat} {l:PL} {N:Nat} (h:AgeL W R p l N) (t a b:Int) (ht:0≤t)
include h ht
end
end
end Go.Proofs.YtefepfiijoafbaaGreat
