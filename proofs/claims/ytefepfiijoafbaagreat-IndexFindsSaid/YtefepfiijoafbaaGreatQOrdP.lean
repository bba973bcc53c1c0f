/- Edged RkP Comp4 OrdP -/
import Derived.Deep.QuietTactic
import Derived.Deep.RegionLaw
import Derived.Lib.SliceRun
import Derived.Test.YtefepfiijoafbaaGreatQValO
import Derived.Test.YtefepfiijoafbaaGreatQEq4
import Derived.Test.YtefepfiijoafbaaGreatQDelW
import Derived.Test.YtefepfiijoafbaaGreatQLookP
set_option linter.unusedVariables false
set_option linter.unusedSimpArgs false
set_option maxRecDepth 100000
set_option maxHeartbeats 1000000
namespace Go.Proofs.YtefepfiijoafbaaGreat
section
open Go.RowKit Go.Shelf Go.Maps
attribute [local go_sem] Oper.semAt_some
attribute [local irreducible] wpQuiet

end
section
open Go.RowKit Go.Shelf
structure Rk where
 uid:Int
 n:Int
 some:Bool
def Rk.enc(r:Rk):List Value:=[.int .u64 r.uid,.int .i64 r.n,.bool r.some]
structure Rk.Ok(r:Rk):Prop where
 u:0≤r.uid∧r.uid < 18446744073709551616
 n:-9223372036854775808≤r.n∧r.n < 9223372036854775808
def rkKey(down:Bool)(r:Rk):Int:=if r.some then (if down then -r.n else r.n) * 18446744073709551616+r.uid else 1000000000000000000000000000000000000000000000000+r.uid
def rkLess(down:Bool)(a b:Rk):Bool:=
 if a.some != b.some then a.some else if a.some &&(a.n != b.n) then (decide (a.n < b.n) != down) else decide (a.uid < b.uid)
theorem rkLess_key (down : Bool) {a b : Rk} (ha : a.Ok) (hb : b.Ok) : rkLess down a b = decide (rkKey down a < rkKey down b) := by
  obtain ⟨⟨a1, a2⟩, a3, a4⟩ := ha
  obtain ⟨⟨b1, b2⟩, b3, b4⟩ := hb
  obtain ⟨au, an, sa⟩ := a
  obtain ⟨bu, bn, sb⟩ := b
  simp only at *
  unfold rkLess rkKey
  cases sa <;> cases sb <;> cases down <;> simp only [bne_self_eq_false, Bool.bne_false, Bool.bne_true, Bool.false_and, Bool.true_and, Bool.not_true, Bool.not_false, Bool.false_eq_true, if_true, if_false, Bool.false_bne, Bool.true_bne]
  all_goals
    first
      | (congr 1; rw [eq_iff_iff]; omega)
      | (symm; rw [decide_eq_true_iff]; omega)
      | (symm; rw [decide_eq_false_iff_not]; omega)
      | (by_cases e : an = bn
         · subst e; simp; try omega
         · have e' : (an != bn) = true := by simpa using e
           rw [if_pos e']
           first
             | (congr 1; rw [eq_iff_iff]; omega)
             | (rw [Bool.eq_iff_iff]; simp only [Bool.not_eq_true', decide_eq_false_iff_not, decide_eq_true_eq]; omega))
def keyAt(down:Bool)(H:List Rk)(i:Nat):Int:=(H[i]?.map (rkKey down)).getD 0
def swp(K:Nat→Int)(i j:Nat):Nat→Int:=fun x=>if x=i then K j else if x=j then K i else K x
def IsHp(K:Nat→Int)(n:Nat):Prop:=∀ i,0 < i→i < n→K ((i - 1) / 2)≤K i
def UpF(K:Nat→Int)(n j:Nat):Prop:=(∀ i,0 < i→i < n→i≠j→K ((i - 1) / 2)≤K i)∧(0 < j→∀ i,0 < i→i < n→(i - 1) / 2=j→K ((j - 1) / 2)≤K i)
def DownF(K:Nat→Int)(n i:Nat):Prop:=(∀ c,0 < c→c < n→(c - 1) / 2≠i→K ((c - 1) / 2)≤K c)∧(0 < i→∀ c,0 < c→c < n→(c - 1) / 2=i→K ((i - 1) / 2)≤K c)
theorem up_done{K:Nat→Int}{n j:Nat}(h:UpF K n j)(hd:j=0∨¬ K j < K ((j - 1) / 2)):IsHp K n:=fun i h0 hn=>by
 by_cases e:i=j
 ·subst e;omega
 ·exact h.1 i h0 hn e
theorem up_step{K:Nat→Int}{n j:Nat}(h:UpF K n j)(h0:0 < j)(hn:j < n)(hlt:K j < K ((j - 1) / 2)):UpF (swp K ((j - 1) / 2) j) n ((j - 1) / 2):=by
 obtain⟨i,hi⟩:∃ i,(j - 1) / 2=i:=⟨_,rfl⟩
 rw[hi] at hlt ⊢
 have hij:i < j:=by omega
 refine⟨fun k hk0 hkn hki=>?_,fun hi0 k hk0 hkn hkp=>?_⟩
 ·unfold swp
  by_cases e1:k=j
  ·subst e1
   rw[hi,if_pos rfl,if_neg (by omega),if_pos rfl];omega
  ·by_cases e2:(k - 1) / 2=j
   ·have:=h.2 h0 k hk0 hkn e2
    rw[hi] at this
    rw[if_neg (by omega),if_pos e2,if_neg hki,if_neg e1];exact this
   ·by_cases e3:(k - 1) / 2=i
    ·have:=h.1 k hk0 hkn e1
     rw[e3] at this
     rw[if_pos e3,if_neg hki,if_neg e1];omega
    ·have:=h.1 k hk0 hkn e1
     rw[if_neg e3,if_neg e2,if_neg hki,if_neg e1];exact this
 ·unfold swp
  have h1:=h.1 i hi0 (by omega) (by omega)
  rw[if_neg (show ¬(i - 1) / 2=i by omega),if_neg (show ¬(i - 1) / 2=j by omega),if_neg (show ¬ k=i by omega)]
  by_cases e1:k=j
  ·rw[if_pos e1];exact h1
  ·rw[if_neg e1]
   have:=h.1 k hk0 hkn e1
   rw[hkp] at this
   omega
theorem down_done{K:Nat→Int}{n i:Nat}(h:DownF K n i)(hd:∀ c,c < n→(c=2 * i+1∨c=2 * i+2)→K i≤K c):IsHp K n:=fun c h0 hn=>by
 by_cases e:(c - 1) / 2=i
 ·rw[e];exact hd c hn (by omega)
 ·exact h.1 c h0 hn e
theorem down_step{K:Nat→Int}{n i j:Nat}(h:DownF K n i)(hj:j=2 * i+1∨j=2 * i+2)(hn:j < n)(hmin:∀ c,c < n→(c=2 * i+1∨c=2 * i+2)→K j≤K c)(hlt:K j < K i):DownF (swp K i j) n j:=by
 have hp:(j - 1) / 2=i:=by omega
 refine⟨fun c h0 hcn hc=>?_,fun h0 c hc0 hcn hc=>?_⟩
 ·unfold swp
  by_cases e1:c=j
  ·subst e1
   rw[hp,if_pos rfl,if_neg (by omega),if_pos rfl];omega
  ·by_cases e2:(c - 1) / 2=i
   ·rw[if_pos e2,if_neg (by omega),if_neg e1]
    exact hmin c hcn (by omega)
   ·by_cases e3:c=i
    ·subst e3
     rw[if_neg e2,if_neg hc,if_pos rfl]
     exact h.2 h0 j (by omega) hn hp
    ·rw[if_neg e2,if_neg hc,if_neg e3,if_neg e1]
     exact h.1 c h0 hcn e2
 ·unfold swp
  rw[hp,if_pos rfl,if_neg (by omega),if_neg (by omega)]
  have:=h.1 c hc0 hcn (by omega)
  rw[hc] at this
  exact this
theorem hp_min{K:Nat→Int}{n:Nat}(h:IsHp K n):∀ i,i < n→K 0≤K i:=by
 intro i
 induction i using Nat.strongRecOn with
 | ind i ih=>
  intro hn
  by_cases h0:i=0
  ·subst h0;exact Int.le_refl _
  ·exact Int.le_trans (ih ((i - 1) / 2) (by omega) (by omega)) (h i (by omega) hn)
theorem keyAt_get{down:Bool}{H:List Rk}{i:Nat}(h:i < H.length):keyAt down H i=rkKey down H[i]:=by simp [keyAt,List.getElem?_eq_getElem h]
def swapR(H:List Rk)(i k:Nat):List Rk:=match H[i]?,H[k]? with
 | some p,some q=>(H.set i q).set k p
 | _,_=>H
theorem swapR_eq{H:List Rk}{i k:Nat}(hi:i < H.length)(hk:k < H.length):swapR H i k=(H.set i H[k]).set k H[i]:=by
 simp [swapR,List.getElem?_eq_getElem hi,List.getElem?_eq_getElem hk]
theorem swapR_length{H:List Rk}{i k:Nat}(hi:i < H.length)(hk:k < H.length):(swapR H i k).length=H.length:=by
 rw[swapR_eq hi hk];simp
theorem swapR_get{H:List Rk}{i k:Nat}(hi:i < H.length)(hk:k < H.length)(x:Nat):(swapR H i k)[x]?=if x=i then H[k]? else if x=k then H[i]? else H[x]?:=by
 rw[swapR_eq hi hk,List.getElem?_set,List.getElem?_set]
 simp only [List.length_set]
 by_cases e1:x=i
 ·subst e1
  by_cases e2:k=x
  ·subst e2;simp [hk]
  ·rw[if_neg e2,if_pos rfl,if_pos hi,if_pos rfl,List.getElem?_eq_getElem hk]
 ·by_cases e2:x=k
  ·subst e2
   rw[if_pos rfl,if_pos hk,if_neg e1,if_pos rfl,List.getElem?_eq_getElem hi]
  ·rw[if_neg (fun e=>e2 e.symm),if_neg (fun e=>e1 e.symm),if_neg e1,if_neg e2]
theorem swapR_key{down:Bool}{H:List Rk}{i k:Nat}(hi:i < H.length)(hk:k < H.length):keyAt down (swapR H i k)=swp (keyAt down H) i k:=by
 funext x
 unfold keyAt swp
 rw[swapR_get hi hk]
 split
 ·rfl
 ·split
  ·rfl
  ·rfl
theorem swapR_perm{H:List Rk}{i k:Nat}(hi:i < H.length)(hk:k < H.length):(swapR H i k).Perm H:=by
 rw[swapR_eq hi hk]
 exact List.set_set_perm hi hk
theorem up_of_app{down:Bool}{H:List Rk}{p:Rk}(h:IsHp (keyAt down H) H.length):UpF (keyAt down (H ++ [p])) (H ++ [p]).length H.length:=by
 have hk:∀ x,x < H.length→keyAt down (H ++ [p]) x=keyAt down H x:=fun x hx=>by unfold keyAt;rw[List.getElem?_append_left hx]
 rw[List.length_append,List.length_singleton]
 refine⟨fun i h0 hi hne=>?_,fun h0 i hi0 hi hp=>by omega⟩
 rw[hk _ (by omega),hk _ (by omega)]
 exact h i h0 (by omega)
theorem down_of_hpR{down:Bool}{H:List Rk}{n:Nat}(h:IsHp (keyAt down H) H.length)(hn:n+1=H.length):DownF (keyAt down (swapR H 0 n)) n 0:=by
 rw[swapR_key (by omega) (by omega)]
 refine⟨fun c h0 hc hp=>?_,fun h0=>absurd h0 (by omega)⟩
 unfold swp
 rw[if_neg hp,if_neg (by omega),if_neg (by omega),if_neg (by omega)]
 exact h c h0 (by omega)
theorem keyAt_take{down:Bool}{H:List Rk}{n x:Nat}(h:x < n):keyAt down (H.take n) x=keyAt down H x:=by
 unfold keyAt;rw[List.getElem?_take,if_pos h]
end
section
open Go.RowKit Go.Shelf
attribute [local go_sem] Oper.semAt_some
abbrev Row(w:World)(base:Nat)(v:Value)(xs:List Int):Prop:=w.ownsRow base 33 1 v xs.length (xs.map (Value.int .u64))
theorem take_succ{α:Type}(xs:List α){k:Nat}(h:k < xs.length):xs.take (k+1)=xs.take k ++ [xs[k]]:=by
 rw[List.take_succ_eq_append_getElem h]
theorem ownsRow_same{w w':World}{base:Nat}{e:TypeId}{size:Nat}{v:Value}{n:Nat}{xs:List Value}(h:w.ownsRow base e size v n xs)
  (hs:∀ g,v.ownBlock=some g→w'.heap[g]?=w.heap[g]?):w'.ownsRow base e size v n xs:=by
 refine⟨h.1,?_⟩
 rcases h.2 with hn | ⟨g,cap,cur,rfl,hb,hgg,rest⟩
 ·exact .inl hn
 ·exact .inr ⟨g,cap,cur,rfl,hb,(hs g rfl).trans hgg,rest⟩
theorem ownsRow_elem{w:World}{base:Nat}{e:TypeId}{size:Nat}{v:Value}{n:Nat}{xs:List Value}(h:w.ownsRow base e size v n xs){g:Nat}(hg:v.ownBlock=some g) :
  ∃ cur,w.heap[g]?=some (.cells cur e (0,0)):=by
 rcases h.2 with⟨rfl,_⟩ | ⟨g',cap,cur,rfl,hb,hgg,rest⟩
 ·simp [Value.ownBlock] at hg
 ·simp [Value.ownBlock] at hg;subst hg;exact⟨cur,hgg⟩
theorem setCells_spec(g:Nat)(e:TypeId)(fr:Nat × Nat):∀ (vs:List Value) (w:World) (o:Nat) (cur:Array Value),w.heap[g]?=some (.cells cur e fr) →
  ∃ cur',(w.setCells g o vs).heap[g]?=some (.cells cur' e fr)∧cur'.size=cur.size∧(∀ j,j < o→cur'[j]?=cur[j]?)∧Fr (fun k=>k=g) w (w.setCells g o vs)
 | [],w,o,cur,h=>⟨cur,h,rfl,fun _ _=>rfl,Fr.refl _ _⟩
 | v :: vs,w,o,cur,h=>by
  have h1:(w.setCell ⟨g,o,none⟩ v).heap[g]?=some (.cells (cur.setIfInBounds o v) e fr):=by
   have hl:=lt_of_block h
   simp only [World.setCell,Array.getElem?_modify]
   simp [h]
  obtain⟨cur',h2,h3,h4,h5⟩:=setCells_spec g e fr vs (w.setCell ⟨g,o,none⟩ v) (o+1) _ h1
  exact⟨cur',h2,by simpa using h3,fun j hj=>by rw[h4 j (by omega)];simp [Array.getElem?_setIfInBounds];omega,((Fr.refl (fun k=>k=g) w).setCell (p:=⟨g,o,none⟩) (.inl rfl) _).trans h5 fun k hk=>.inl hk⟩
theorem row_take{w:World}{base g n cap:Nat}{ys:List Int}{m:Nat}(h:w.ownsRow base 33 1 (.slice (some ⟨g,0,none⟩) n cap) n (ys.map (Value.int .u64)))(hm:m≤n) :
  Row w base (.slice (some ⟨g,0,none⟩) m cap) (ys.take m):=by
 have hl:=h.1
 simp at hl
 rcases h.2 with⟨h',_⟩ | ⟨g',cap',cur,h',hb,hg,hnc,hcm,hcs,htake⟩
 ·simp at h'
 ·simp only [Value.slice.injEq,Option.some.injEq,Addr.mk.injEq,and_true,true_and] at h'
  obtain⟨rfl,rfl⟩:=h'
  have hmy:(ys.take m).length=m:=by simp;omega
  refine⟨by simp,.inr ⟨g,cap,cur,by rw[hmy],hb,hg,by omega,hcm,hcs,?_⟩⟩
  rw[hmy]
  have:cur.toList.take (m * 1)=(cur.toList.take (n * 1)).take m:=by rw[List.take_take];congr 1;omega
  rw[this,htake,List.map_take]
theorem row_clear{w:World}{base g n cap:Nat}{ys:List Int}{m:Nat}(vs:List Value)(h:w.ownsRow base 33 1 (.slice (some ⟨g,0,none⟩) n cap) n (ys.map (Value.int .u64)))(hm:m≤n) :
  Row (w.setCells g m vs) base (.slice (some ⟨g,0,none⟩) m cap) (ys.take m):=by
 have ht:=row_take h hm
 have hl:=h.1
 simp at hl
 have hmy:(ys.take m).length=m:=by simp;omega
 refine⟨ht.1,?_⟩
 rcases ht.2 with⟨h',_⟩ | ⟨g',cap',cur,h',hb,hg,hnc,hcm,hcs,htake⟩
 ·simp at h'
 ·simp only [Value.slice.injEq,Option.some.injEq,Addr.mk.injEq,and_true,true_and] at h'
  obtain⟨rfl,hm2,rfl⟩:=h'
  obtain⟨cur',h2,h3,h4,h5⟩:=setCells_spec g _ _ vs w m cur hg
  refine .inr ⟨g,cap,cur',by rw[hmy],hb,h2,hnc,hcm,by omega,?_⟩
  rw[← htake,hmy]
  apply List.ext_getElem?
  intro j
  simp only [List.getElem?_take]
  split
  ·rename_i hj;have:=h4 j (by omega);simpa using this
  ·rfl
theorem zeroU64:∀ w,(zeroValue 33).run Tryz.prog w = .ok (.int .u64 0) w:=fun w=>by kernel_rfl
def compStep(acc:List Int)(x:Int):List Int:=if acc.getLast?=some x then acc else acc ++ [x]
def comp(l:List Int):List Int:=l.foldl compStep []
theorem comp_snoc(l:List Int)(x:Int):comp (l ++ [x])=compStep (comp l) x:=by simp [comp,List.foldl_append]
theorem snoc_cases{α:Type}(l:List α):l = []∨∃ a x,l=a ++ [x]:=by
 rcases List.eq_nil_or_concat l with h | ⟨a,x,h⟩
 ·exact .inl h
 ·exact .inr ⟨a,x,by rw[h,List.concat_eq_append]⟩
theorem comp_last(l:List Int):(comp l).getLast?=l.getLast?:=by
 rcases snoc_cases l with rfl | ⟨a,x,rfl⟩
 ·rfl
 ·rw[comp_snoc,compStep]
  split
  ·rename_i h;rw[h];simp
  ·simp
theorem comp_snoc_same(l:List Int)(x:Int)(h:l.getLast?=some x):comp (l ++ [x])=comp l:=by rw[comp_snoc,compStep,comp_last,if_pos h]
theorem comp_snoc_other(l:List Int)(x:Int)(h:l.getLast?≠some x):comp (l ++ [x])=comp l ++ [x]:=by rw[comp_snoc,compStep,comp_last,if_neg h]
theorem comp_mem(l:List Int)(x:Int):x ∈ comp l↔x ∈ l:=by
 generalize hn:l.length=n
 induction n generalizing l with
 | zero=>rw[List.eq_nil_of_length_eq_zero hn];rfl
 | succ n ih=>
  rcases snoc_cases l with rfl | ⟨a,y,rfl⟩
  ·simp at hn
  ·have:=ih a (by simpa using hn)
   by_cases h:a.getLast?=some y
   ·rw[comp_snoc_same _ _ h,this]
    have hy:y ∈ a:=List.mem_of_getLast? h
    refine⟨fun h=>List.mem_append.2 (.inl h),fun h=>?_⟩
    rcases List.mem_append.1 h with h | h
    ·exact h
    ·simp at h;rw[h];exact hy
   ·rw[comp_snoc_other _ _ h];simp [this]
theorem comp_sorted(l:List Int)(hs:l.Pairwise (·≤·)):(comp l).Pairwise (· < ·):=by
 generalize hn:l.length=n
 induction n generalizing l with
 | zero=>rw[List.eq_nil_of_length_eq_zero hn];simp [comp]
 | succ n ih=>
  rcases snoc_cases l with rfl | ⟨a,y,rfl⟩
  ·simp at hn
  ·obtain⟨h1,h2,h3⟩:=List.pairwise_append.1 hs
   have:=ih a h1 (by simpa using hn)
   by_cases h:a.getLast?=some y
   ·rwa [comp_snoc_same _ _ h]
   ·rw[comp_snoc_other _ _ h,List.pairwise_append]
    refine⟨this,by simp,fun x hx z hz=>?_⟩
    simp at hz;subst hz
    rw[comp_mem] at hx
    have hle:=h3 x hx z (by simp)
    rcases Int.lt_or_eq_of_le hle with hlt | heq
    ·exact hlt
    ·exfalso
     subst heq
     rcases snoc_cases a with rfl | ⟨b,t,rfl⟩
     ·simp at hx
     ·have ht:t≠x:=fun e=>h (by rw[e];simp)
      have h4:=h3 t (by simp) x (by simp)
      rcases List.mem_append.1 hx with hx | hx
      ·have:=(List.pairwise_append.1 h1).2.2 x hx t (by simp)
       omega
      ·simp at hx;exact ht hx.symm
theorem take_last(xs:List Int)(k:Nat)(h0:0 < k)(hk:k≤xs.length):(xs.take k).getLast?=some (xs[k - 1]'(by omega)):=by
 rw[List.getLast?_eq_getElem?];simp;rw[List.getElem?_take,if_pos (by omega)];rw[show min k xs.length - 1=k - 1 by omega];simp
theorem take_set_ge{α:Type}(l:List α)(i t:Nat)(x:α)(h:t≤i):(l.set i x).take t=l.take t:=by
 apply List.ext_getElem?
 intro j
 simp only [List.getElem?_take]
 split
 ·rw[List.getElem?_set_ne (by omega)]
 ·rfl
theorem compact_any(w:World)(base:Nat)(v:Value)(xs:List Int)(h:Row w base v xs)(hl:xs.length≤17592186044416) :
  Calls Tryz.prog 85 #[v] w fun e w'=>∃ v',e = .returned v'∧Row w' base v' (comp xs)∧Fr (fun k=>v.ownBlock=some k) w w':=by
 by_cases h2:xs.length < 2
 ·have hc:comp xs=xs:=by
   rcases xs with _ | ⟨a,_ | ⟨b,r⟩⟩
   ·rfl
   ·rfl
   ·simp at h2;omega
  have hv:∃ a cap,v = .slice a xs.length cap:=by
   rcases h.2 with⟨hv,h0⟩ | ⟨g,cap,_,hv,_⟩
   ·exact⟨none,0,by rw[hv,h0]⟩
   ·exact⟨_,cap,hv⟩
  obtain⟨a,cap,rfl⟩:=hv
  have HR:=hhd h
  clear h
  go_enter Tryz.func85,Tryz.ntmps85
  go_wp2
  go_ret
  exact⟨_,rfl,by rw[hc];exact HR.out,Fr.refl _ _⟩
 ·obtain⟨n,hn⟩:∃ n,xs.length=n:=⟨_,rfl⟩
  obtain⟨g,cap,rfl⟩:∃ g cap,v = .slice (some ⟨g,0,none⟩) n cap:=by
   rcases h.2 with⟨_,h0⟩ | ⟨g,cap,_,hv,_⟩
   ·omega
   ·exact⟨g,cap,by rw[hv,hn]⟩
  have h':w.ownsRow base 33 1 (.slice (some ⟨g,0,none⟩) n cap) n (xs.map (Value.int .u64)):=by rw[← hn];rw[← hn] at h;exact h
  have hcap:n≤cap∧cap≤9223372036854775807:=by
   rcases h'.2 with⟨h0,_⟩ | ⟨g',cap',cur,h0,hb,hg,hnc,hcm,hcs,htake⟩
   ·simp at h0
   ·simp at h0;obtain⟨rfl,rfl⟩:=h0;exact⟨hnc,by unfold maxLen at hcm;omega⟩
  obtain⟨hc1,hc2⟩:=hcap
  have HR:=hhd h';have HN:=hhd hn
  rw[hn] at hl h2
  clear h h' hn
  have h2':¬(n:Int) < 2:=by omega
  go_enter Tryz.func85,Tryz.ntmps85
  go_wp2
  go_loopw [3] (fun sk wr=>∃ m:Nat,m+1≤n∧sk = .int .i64 ((m:Int)+1)∧Hid (comp (xs.take (m+1))=xs.take (m+1))∧wr.ownsRow base 33 1 (.slice (some ⟨g,0,none⟩) n cap) n (xs.map (Value.int .u64))∧Fr (fun k=>(Value.slice (some ⟨g,0,none⟩) n cap).ownBlock=some k) w wr)
   (fun sk _=>n - (intOf sk).toNat)
  case atStart=>
   refine⟨0,by omega,by go_num,?_,HR.out,Fr.refl _ _⟩
   show comp (xs.take 1)=xs.take 1
   rw[take_succ xs (k:=0) (by rw[HN.out];omega)];rfl
  case round=>
   obtain⟨m,hm,rfl,hcm,hrow,hfr⟩:=hrel
   by_cases hlt:m+1 < n
   ·have hx1:m+1 < xs.length:=by rw[HN.out];exact hlt
    have hx0:m < xs.length:=by omega
    have e1:wr.cell? ⟨g,m+1,none⟩=some (.int .u64 xs[m+1]):=by rw[hrow.cellAt _ (by omega),List.getElem?_map,List.getElem?_eq_getElem hx1];rfl
    have e0:wr.cell? ⟨g,m,none⟩=some (.int .u64 xs[m]):=by rw[hrow.cellAt _ (by omega),List.getElem?_map,List.getElem?_eq_getElem hx0];rfl
    have htl:=take_last xs (m+1) (by omega) (by omega)
    have hts:=take_succ xs hx1
    simp only [Nat.add_sub_cancel] at htl
    obtain⟨x1,hx1'⟩:∃ x,xs[m+1]=x:=⟨_,rfl⟩
    obtain⟨x0,hx0'⟩:∃ x,xs[m]=x:=⟨_,rfl⟩
    rw[hx1'] at e1 hts;rw[hx0'] at e0 htl
    have hwr:IntKind.i64.wrap (m:Int)=(m:Int):=IntWalk.i64_in _ (by omega)
    have hb1:(m:Int)+1 < (n:Int):=by omega
    have hb0:(m:Int) < (n:Int):=by omega
    have HTL:=hhd htl;have HTS:=hhd hts;have HRW:=hhd hrow;have HFR:=hhd hfr
    clear htl hts hrow hfr hx1' hx0' hx1 hx0
    cases heq:(x1 == x0) with
    | false=>
     go_wp2
     go_quiet (fail)
     clear hwr
     go_wp2
     go_roundw
     case rel=>
      refine⟨m+1,by omega,by go_num,?_,ownsRow_same HRW.out (fun _ _=>rfl),HFR.out.drewN _⟩
      show comp (xs.take (m+1+1))=xs.take (m+1+1)
      rw[HTS.out,comp_snoc_other,hcm.out]
      rw[HTL.out]
      intro e
      simp at e
      rw[e] at heq;simp at heq
     case measure=>simp [intOf];omega
    | true=>
     obtain rfl:x1=x0:=by simpa using heq
     go_wp2
     go_quiet (fail)
     clear hwr
     have hne:¬ cap=m+1:=by omega
     have hst:comp (xs.take (m+1+1))=xs.take (m+1):=by rw[HTS.out,comp_snoc_same _ _ HTL.out,hcm.out]
     have HST:=hhd hst;clear hst
     clear e1 e0 heq hb1 hb0 hcm HTS HTL
     obtain⟨r,hr⟩:∃ r,n - (m+1)=r:=⟨_,rfl⟩
     obtain⟨cr,hcr⟩:∃ cr,cap - (m+1)=cr:=⟨_,rfl⟩
     go_wp2
     clear hne
     obtain⟨wo,hwo⟩:∃ wo,wr.drewN nq=wo:=⟨_,rfl⟩
     have hro:wo.ownsRow base 33 1 (.slice (some ⟨g,0,none⟩) n cap) n (xs.map (Value.int .u64)):=by rw[← hwo];exact ownsRow_same HRW.out (fun _ _=>rfl)
     have hfo:Fr (fun k=>(Value.slice (some ⟨g,0,none⟩) n cap).ownBlock=some k) w wo:=by rw[← hwo];exact HFR.out.drewN _
     rw[hwo]
     clear hwo HRW HFR
     have hnr:n=m+1+r:=by omega
     have HNR:=hhd hnr
     have hrn:m+1+r≤n:=by omega
     have hrn':n≤m+1+r:=by omega
     clear hr hcr hnr
     go_loopw [3,5] (fun sk st wx=>∃ (k s:Nat) (ys:List Int),s≤r∧m+1≤k∧k≤m+1+s∧k < n∧sk = .int .i64 k∧st = .int .i64 ((s:Int)+1) ∧
       Hid (ys.length=n∧ys.take k=comp (xs.take (min n (m+1+(s+1))))∧ys.drop (m+1+s)=xs.drop (m+1+s))∧wx.ownsRow base 33 1 (.slice (some ⟨g,0,none⟩) n cap) n (ys.map (Value.int .u64)) ∧
       Fr (fun k=>(Value.slice (some ⟨g,0,none⟩) n cap).ownBlock=some k) w wx) (fun _ st _=>r+1 - (intOf st).toNat)
     case atStart=>
      refine⟨m+1,0,xs,by omega,by omega,by omega,by omega,by go_num,by go_num,⟨HN.out,?_,rfl⟩,hro,hfo⟩
      rw[← HST.out,Nat.min_eq_right (by omega)]
     case round=>
      obtain⟨k,s,ys,hs,hk1,hk2,hk3,rfl,rfl,hy,hrow,hfr⟩:=hrel
      clear hro hfo
      by_cases hlt2:s+1 < r
      ·have hx1:m+1+(s+1) < xs.length:=by rw[HN.out];omega
       have hx0:m+1+s < xs.length:=by omega
       have hyg:∀ t,ys[m+1+s+t]?=xs[m+1+s+t]?:=fun t=>by
        have:=congrArg (fun l=>l[t]?) hy.out.2.2
        simpa [List.getElem?_drop] using this
       have e1:wr.cell? ⟨g,m+1+(s+1),none⟩=some (.int .u64 xs[m+1+(s+1)]):=by
        have h9:=hyg 1
        rw[show m+1+s+1=m+1+(s+1) by omega] at h9
        rw[hrow.cellAt _ (by omega),List.getElem?_map,h9,List.getElem?_eq_getElem hx1];rfl
       have e0:wr.cell? ⟨g,m+1+s,none⟩=some (.int .u64 xs[m+1+s]):=by
        have:=hyg 0
        simp only [Nat.add_zero] at this
        rw[hrow.cellAt _ (by omega),List.getElem?_map,this,List.getElem?_eq_getElem hx0];rfl
       have ek:∃ u,wr.cell? ⟨g,k,none⟩=some u:=by
        rw[hrow.cellAt _ (by omega)]
        exact⟨_,List.getElem?_eq_getElem (by simp;have:=hy.out.1;omega)⟩
       obtain⟨u,ek⟩:=ek
       have fk:=hrow.frozenAt k
       have htl:=take_last xs (m+1+(s+1)) (by omega) (by omega)
       have hts:=take_succ xs hx1
       simp only [show m+1+(s+1) - 1=m+1+s by omega] at htl
       obtain⟨y1,hy1⟩:∃ x,xs[m+1+(s+1)]=x:=⟨_,rfl⟩
       obtain⟨y0,hy0⟩:∃ x,xs[m+1+s]=x:=⟨_,rfl⟩
       rw[hy1] at e1 hts;rw[hy0] at e0 htl
       have hwr:IntKind.i64.wrap (s:Int)=(s:Int):=IntWalk.i64_in _ (by omega)
       have hb1:(s:Int)+1 < (r:Int):=by omega
       have hb0:(s:Int) < (r:Int):=by omega
       have hdrop:ys.drop (m+1+(s+1))=xs.drop (m+1+(s+1)):=by
        have:=congrArg (fun l=>l.drop 1) hy.out.2.2
        simp only [List.drop_drop] at this
        rwa [show m+1+s+1=m+1+(s+1) by omega] at this
       have hcomp:ys.take k=comp (xs.take (m+1+(s+1))):=by rw[hy.out.2.1,Nat.min_eq_right (by omega)]
       have HTL:=hhd htl;have HTS:=hhd hts;have HRW:=hhd hrow;have HFR:=hhd hfr;have HD:=hhd hdrop;have HC:=hhd hcomp
       clear htl hts hrow hfr hy1 hy0 hx1 hx0 hyg hdrop hcomp
       cases hne:(y1 != y0) with
       | false=>
        obtain rfl:y1=y0:=by simpa using hne
        clear ek fk
        go_wp2
        go_quiet (fail)
        clear hwr
        go_wp2
        go_roundw
        case rel=>
         refine⟨k,s+1,ys,by omega,by omega,by omega,by omega,rfl,by go_num,⟨hy.out.1,?_,HD.out⟩,ownsRow_same HRW.out (fun _ _=>rfl),HFR.out.drewN _⟩
         rw[Nat.min_eq_right (by omega),show m+1+(s+1+1)=m+1+(s+1)+1 by omega,HTS.out,comp_snoc_same _ _ HTL.out,HC.out]
        case measure=>simp [intOf];omega
       | true=>
        go_wp2
        go_quiet (fail)
        clear hwr
        go_wp2
        go_roundw
        case rel=>
         obtain⟨hs1,hs2⟩:=(ownsRow_same (w':=wr.drewN nq) HRW.out (fun _ _=>rfl)).stored k (.int .u64 y1)
         refine⟨k+1,s+1,ys.set k y1,by omega,by omega,by omega,by omega,by go_num,by go_num,⟨by simpa using hy.out.1,?_,?_⟩,by simpa [List.map_set] using hs1,(HFR.out.drewN _).setCell (p:=⟨g,k,none⟩) (.inl rfl) _⟩
         ·have hkl:k < ys.length:=by rw[hy.out.1];exact hk3
          rw[take_succ _ (by simpa using hkl),take_set_ge _ _ _ _ (Nat.le_refl _),List.getElem_set_self,Nat.min_eq_right (by omega),show m+1+(s+1+1)=m+1+(s+1)+1 by omega,HTS.out,comp_snoc_other,HC.out]
          rw[HTL.out]
          intro e
          simp at e
          rw[e] at hne;simp at hne
         ·rw[List.drop_set,if_pos (by omega)];exact HD.out
        case measure=>simp [intOf];omega
      ·have hcl:∀ ty,(Builtin.clear_ #[35] ty #[.slice (some ⟨g,k,none⟩) (n - k) (cap - k)]).run Tryz.prog wr = .ok (.tuple #[]) (wr.setCells g k (List.replicate (n - k) (.int .u64 0))):=fun ty=>
        Lib.run_clear_slice wr 35 33 ty (.int .u64 0) Tryz.underlying35 zeroU64 rfl rfl g k _ _ (by omega) (fun t ht=>by rw[hrow.cellAt _ (by omega),List.getElem?_eq_getElem (by simp;have:=hy.out.1;omega)];rfl) (fun t ht=>hrow.frozenAt _)
       have HRW:=hhd hrow;have HFR:=hhd hfr
       clear hrow hfr
       have hne:¬ cap=k:=by omega
       go_wp2
       go_ret
       have hfin:ys.take k=comp xs:=by
        rw[hy.out.2.1,Nat.min_eq_left (by omega),List.take_of_length_le (by rw[HN.out];exact Nat.le_refl _)]
       have hrc:=row_clear (m:=k) (List.replicate (n - k) (.int .u64 0)) HRW.out (by omega)
       rw[hfin] at hrc
       refine⟨_,rfl,hrc,?_⟩
       obtain⟨cur,hcur⟩:=ownsRow_elem HRW.out (g:=g) rfl
       obtain⟨_,_,_,_,h5⟩:=setCells_spec g _ _ (List.replicate (n - k) (.int .u64 0)) wr k cur hcur
       exact HFR.out.trans h5 fun k hk=>.inl (by rw[hk];rfl)
   ·obtain rfl:n=m+1:=by omega
    have HRW:=hhd hrow;have HFR:=hhd hfr
    clear hrow hfr
    go_wp2
    go_ret
    have hfin:comp xs=xs:=by
     have:=hcm.out
     rwa [List.take_of_length_le (by rw[HN.out];exact Nat.le_refl _)] at this
    refine⟨_,rfl,?_,HFR.out⟩
    rw[hfin,Row,HN.out]
    exact HRW.out
end
section
open Go.RowKit Go.Shelf
def rkOf(H:Int→List Val)(u:Int):Rk:=match H u with
 | []=>⟨u,0,false⟩
 | v :: _=>⟨u,v.n,true⟩
theorem rkOf_uid(H:Int→List Val)(u:Int):(rkOf H u).uid=u:=by unfold rkOf;split <;> rfl
structure Taken(down:Bool)(all os H:List Rk):Prop where
 perm:(os ++ H).Perm all
 rises:os.Pairwise fun a b=>rkKey down a≤rkKey down b
 below:∀ a ∈ os,∀ b ∈ H,rkKey down a≤rkKey down b
theorem taken_start{down:Bool}{all H:List Rk}(h:H.Perm all):Taken down all [] H:=⟨by simpa using h,List.Pairwise.nil,by simp⟩
theorem hp_min_mem{down:Bool}{H:List Rk}(h:IsHp (keyAt down H) H.length)(h0:0 < H.length):∀ b ∈ H,rkKey down H[0]≤rkKey down b:=fun b hb=>by
 obtain⟨i,hi,rfl⟩:=List.getElem_of_mem hb
 have:=hp_min h i hi
 rwa [keyAt_get h0,keyAt_get hi] at this
theorem taken_step{down:Bool}{all os H H':List Rk}{r:Rk}(h:Taken down all os H)(hp:(H' ++ [r]).Perm H)(hmin:∀ b ∈ H,rkKey down r≤rkKey down b):Taken down all (os ++ [r]) H' where
 perm:=by
  refine List.Perm.trans ?_ h.perm
  rw[List.append_assoc]
  refine List.Perm.append_left os ?_
  refine List.Perm.trans ?_ hp
  simpa using (List.perm_append_comm (l₁:=[r]) (l₂:=H'))
 rises:=by
  rw[List.pairwise_append]
  refine⟨h.rises,List.pairwise_singleton _ _,fun a ha b hb=>?_⟩
  simp at hb;subst hb
  exact h.below a ha b (hp.mem_iff.1 (by simp))
 below:=fun a ha b hb=>by
  have hbH:b ∈ H:=hp.mem_iff.1 (by simp [hb])
  rcases List.mem_append.1 ha with ha | ha
  ·exact h.below a ha b hbH
  ·simp at ha;subst ha;exact hmin b hbH
structure Ordered(down:Bool)(H:Int→List Val)(us xs:List Int):Prop where
 out:∃ rs:List Rk,xs=rs.map (·.uid)∧rs.Perm (us.map (rkOf H))∧rs.Pairwise fun a b=>rkKey down a≤rkKey down b
def normU(xs:List Int):List Int:=comp (xs.mergeSort fun x y=>decide (x≤y))
theorem comp_len(l:List Int):(comp l).length≤l.length:=by
 refine list_snoc (C:=fun l=>(comp l).length≤l.length) (by simp [comp]) (fun xs x ih=>?_) l
 rw[comp_snoc];unfold compStep
 split
 ·simp;omega
 ·simpa using ih
theorem normU_len(xs:List Int):(normU xs).length≤xs.length:=by
 unfold normU
 exact Nat.le_trans (comp_len _) (by rw[(List.mergeSort_perm xs _).length_eq];exact Nat.le_refl _)
theorem normU_mem(xs:List Int)(u:Int):u ∈ normU xs↔u ∈ xs:=by
 unfold normU
 rw[comp_mem,(List.mergeSort_perm xs _).mem_iff]
end
end Go.Proofs.YtefepfiijoafbaaGreat
