/- MapS MapE Cut ValR -/
import Derived.Deep.RegionLaw
import Derived.StringKeys
import Derived.Deep.QuietTactic
import Derived.Test.YtefepfiijoafbaaGreatQValO
import Derived.Test.YtefepfiijoafbaaGreatQBS
import Derived.Test.YtefepfiijoafbaaGreatQBase
import Derived.Test.YtefepfiijoafbaaGreatQEq4
set_option linter.unusedVariables false
set_option linter.unusedSimpArgs false
set_option maxRecDepth 100000
set_option maxHeartbeats 2000000
namespace Go.Proofs.YtefepfiijoafbaaGreat
section
open Go.RowKit Go.Shelf Go.Maps
section
variable {P:Program} {w:World} {ops:Array Oper} {o:Oper} {a:Act} {K:Act→World→Prop} {Q:Exit→Act→World→Prop} {E:Prop}
end
section
variable {P:Program} (w:World) {ops:Array Oper} {rest:List Oper} {o:Oper} {a:Act} {Q:Exit→Act→World→Prop}
theorem wpList_rangeF2(hg:o.guard=none)(m:Operand)(t:TypeId)(hop:o.op=Op.range t m)(k e:TypeId)(K:Keyed P k)(ht:P.underlying t=some (.map k e))(b n:Nat)(F:Lit→Option Value)
  (hm:a.eval m = .map (some b)) (h:MapF P k w b n F)
  (hK:∀ w' cnt,cnt≤n→MapR P k w' b w.heap.size n F (fun kl=>(F kl).isSome) cnt→Fr N0 w w'→w'.heap.size=w.heap.size+1→wpList P ops Q rest (a.put o.dst (.pointer (some ⟨w.heap.size,0,none⟩))) w') :
  wpList P ops Q (o :: rest) a w:=by
 obtain⟨D,h,hV⟩:=h
 have e1:Maps.has D=fun kl=>(F kl).isSome:=funext hV.has
 exact wpList_range_own w hg m t hop k e K ht heldR b n D hm h fun w' h1 h2 h3=>hK w' (Maps.size D) h.size_le ⟨D,e1 ▸ h1,hV⟩ (fr_grown0 h2) h3
end
section
variable {P:Program} {k:TypeId} {w:World}
theorem MapF.store{b n:Nat}{F:Lit→Option Value}{t e:TypeId}(h:MapF P k w b n F)(Kd:Keyed P k)(ht:P.underlying t=some (.map k e))(hn:n < maxLen){key:Value}{kl:Lit}(hkey:keyOf P k key=some kl)(val:Value) :
  ∃ w',(Instr.mapUpdate t (.map (some b)) key val).run P w = .ok () w'∧MapF P k w' b (n+1) (putF F kl (some val))∧Fr (fun j=>j=b) w w':=by
 obtain⟨D,h,hV⟩:=h
 obtain⟨w',hrun,r1,r2⟩:=h.store Kd ht hn hkey (val:=val) (d:=.held val) (ps:=[]) rfl
 exact⟨w',hrun,⟨_,r1,hV.put h.isMap (Kd.key hkey) val⟩,fr_turned r2⟩
theorem MapF.drop{b n:Nat}{F:Lit→Option Value}{t e:TypeId}(h:MapF P k w b n F)(Kd:Keyed P k)(ht:P.underlying t=some (.map k e)){key:Value}{kl:Lit}(hkey:keyOf P k key=some kl)(ty:TypeId) :
  ∃ w',(Builtin.delete_ #[t,k] ty #[.map (some b),key]).run P w = .ok (.tuple #[]) w'∧MapF P k w' b n (putF F kl none)∧Fr (fun j=>j=b) w w':=by
 obtain⟨D,h,hV⟩:=h
 obtain⟨w',hrun,r1,r2⟩:=h.drop Kd ht hkey ty
 exact⟨w',hrun,⟨_,r1,hV.del kl⟩,fr_turned r2⟩
end
end
section
open Go.RowKit Go.Shelf Go.Maps
attribute [local go_sem] Oper.semAt_some
theorem lawU:Keyed Tryz.prog 33:=int_keyed Tryz.underlying33
theorem invU{key:Value}{kl:Lit}(h:keyOf Tryz.prog 33 key=some kl):∃ x,key=Value.int .u64 x:=by
 obtain⟨x,h,-⟩:=Maps.keyOf_int_inv Tryz.underlying33 h;exact⟨x,h⟩
theorem left_next{F:Lit→Option Value}{left:Lit→Bool}{kl:Lit}(h:∀ kl,left kl=true→(F kl).isSome=true):∀ z,(left z && !z.sameKey kl)=true→(F z).isSome=true:=fun z hz=>by
 simp only [Bool.and_eq_true] at hz;exact h z hz.1
theorem fr_range{W w w':World}{r:Nat}(h:Fr N0 W w)(h':Fr (fun j=>j=r) w w')(hr:W.heap.size≤r):Fr N0 W w':=h.trans h' fun k e=>.inr (by rw[e];exact hr)
end
section
theorem list_tear{α:Type}(d:α):∀ l:List α,(List.range l.length).map (fun i=>l.getD i d)=l:=fun l=>by
 apply List.ext_getElem (by simp)
 intro i h1 h2
 simp at h1
 simp [h1]
theorem cut_mk{n:Nat}{ds:List Deferred}(tm:Array Value)(hs:tm.size=n):({ tmps:=tm,defers:=ds }:Act) = { tmps:=((List.range n).map fun i=>tm.getD i (.bool false)).toArray,defers:=ds }:=by
 subst hs
 have h:=list_tear (Value.bool false) tm.toList
 have:((List.range tm.size).map fun i=>tm.getD i (.bool false))=tm.toList:=by
  rw[← h]
  simp [Array.getD_eq_getD_getElem?]
 rw[this]
def frA(n:Nat)(f:Nat→Value):Act:={ tmps:=((List.range n).map f).toArray,defers:=[] }
theorem cut_use{n:Nat}{K:Act→World→Prop}{W:World}(tm:Array Value)(hs:tm.size=n)(h:K (frA n fun i=>tm.getD i (.bool false)) W):K { tmps:=tm,defers:=[] } W:=by
 rw[cut_mk tm hs];exact h
theorem cut_useQ{n:Nat}{Q:Exit→Act→World→Prop}{e:Exit}{W:World}(tm:Array Value)(hs:tm.size=n)(h:Q e (frA n fun i=>tm.getD i (.bool false)) W):Q e { tmps:=tm,defers:=[] } W:=by
 rw[cut_mk tm hs];exact h
theorem wp_frA{n:Nat}{P:Program}{c:Code}{Q:Exit→Act→World→Prop}{W:World}(tm:Array Value)(hs:tm.size=n)(h:Code.wp P c Q (frA n fun i=>tm.getD i (.bool false)) W):Code.wp P c Q { tmps:=tm,defers:=[] } W:=by
 rw[cut_mk tm hs];exact h
def lvSuf:Nat→Code→Code
 | 0,c=>c
 | n+1,.seq _ b=>lvSuf n b
 | _+1,c=>c
def lvFst:Code→Code
 | .seq a _=>a
 | c=>c
theorem wp_plainQ{P:Program}{c:Code}{K:Act→World→Prop}{Q:Exit→Act→World→Prop}{a:Act}{W:World}(h:Code.wp P c (Exit.then (fun a' W'=>K a' W') (fun _ _ _=>False)) a W):Code.wp P c (Exit.then K Q) a W:=
 Code.wp_mono (Q:=Exit.then (fun a' W'=>K a' W') (fun _ _ _=>False)) (fun e a' W' h=>by
  cases e
  case normal=>exact h
  all_goals exact(h:False).elim) h
theorem wp_plainN{P:Program}{c:Code}{Q:Exit→Act→World→Prop}{a:Act}{W:World}(h:Code.wp P c (Exit.then (fun a' W'=>Q .normal a' W') (fun _ _ _=>False)) a W):Code.wp P c Q a W:=
 Code.wp_mono (Q:=Exit.then (fun a' W'=>Q .normal a' W') (fun _ _ _=>False)) (fun e a' W' h=>by
  cases e
  case normal=>exact h
  all_goals exact(h:False).elim) h
end
section
open Go.RowKit Go.Shelf Go.Maps
attribute [local go_sem] Oper.semAt_some
attribute [local irreducible] wpQuiet
theorem val_info:(Tryz.prog.info? 57).map (fun i=>(i.zero,i.size,i.bytes))=some (some (.agg #[.int .u8 0,.bool false,.int .i64 0,.string ⟨#[]⟩,.int .u64 0]),5,40):=by kernel_rfl
theorem val_len(x:Val):(Val.enc x).length=5:=rfl
theorem val_one(x:Val):∀ u ∈ x.enc,u.oneCell'=true:=by intro u hu;simp [Val.enc] at hu;rcases hu with h | h | h | h | h <;> subst h <;> rfl
theorem cloneV_any(w:World)(b:Nat)(v:Value)(xs:List Val)(h:RowsK Val.enc 5 w b v xs)(hl:xs.length≤10000000000) :
  Calls Tryz.prog 154 #[v] w fun e w'=>∃ v',e = .returned v'∧w'.ownsRow w.heap.size 57 5 v' xs.length (xs.flatMap Val.enc)∧(v = .slice none 0 0→v' = .slice none 0 0)∧Fr N0 w w':=by
 obtain⟨i0,hi,hz0,hz1,hz2⟩:=info_parts val_info
 have h':=h
 have hq:=fun(w:World) a n c=>Lib.run_eql_slice_nil (P:=Tryz.prog) w 91 57 a n c 0 0 Tryz.underlying91
 obtain⟨a,off,cap,rfl,h1,h2,h3,h4,h5⟩:=h
 cases a with
 | none=>
  have hc:=h4 rfl
  subst hc
  obtain rfl:xs = []:=List.eq_nil_of_length_eq_zero (by omega)
  go_enter Tryz.func154,Tryz.ntmps154
  go_wp2
  go_ret
  exact⟨_,rfl,World.ownsRow_nil _ _ _ _,by simp,Fr.refl _ _⟩
 | some a=>
  have hnews:=rows_news (enc:=Val.enc) (n:=5) val_len (by decide) h'
  clear h' h3 h4 h5
  have hnews':∀ (j:Nat) (u:Value),(xs.flatMap Val.enc)[j]?=some u→(w.alloc (.cells #[] 57)).cell? (a.add j)=some u:=fun j u hu=>
   ((Fr.refl N0 w).alloc _).cell (fun h=>h) (hnews j u hu)
  have hown:=World.ownsRow_lit (base:=w.heap.size) (e:=57) (size:=5) w #[] 0 (Nat.le_refl _) (by simp [maxLen]) rfl
  have hlen:(xs.flatMap Val.enc).length=xs.length * 5:=flat_length (enc:=Val.enc) (n:=5) val_len xs
  have HN:=hhd hnews';have HO:=hhd hown;have HL:=hhd hlen
  clear hnews hnews' hown hlen
  go_enter Tryz.func154,Tryz.ntmps154
  go_wp2_with (at_builtin;go_loud (refine wpList_append_own _ rfl _ _ 91 rfl w.heap.size 57 i0 (.agg #[.int .u8 0,.bool false,.int .i64 0,.string ⟨#[]⟩,.int .u64 0]) 5 40 Tryz.underlying91 hi hz0 hz1 hz2 rfl (by decide) _ _ _ rfl HO.out a xs.length cap (xs.flatMap Val.enc) rfl HL.out HN.out (one_cells val_one xs) (by unfold maxLen;omega) (by omega) (by simp) ?_);intro v' w1 hown' hgrow _)
  go_ret
  refine⟨v',rfl,by simpa using hown',((Fr.refl _ _).alloc _).grown hgrow (fun k e=>.inr ?_)⟩
  have e':some w.heap.size=some k:=e
  cases e';exact Nat.le_refl _
theorem row_of_block{α:Type}{enc:α→List Value}{n:Nat}(x:α){W:World}{g:Nat}{cs:Array Value}{t:TypeId}(h:W.heap[g]?=some (.cells cs t (0,0)))(hcs:cs=(enc x).toArray):RowsK enc n W g (.slice (some ⟨g,0,none⟩) 1 1) [x]:=
 ⟨some ⟨g,0,none⟩,0,1,rfl,Nat.le_refl _,by omega,fun _=>rfl,by simp,fun i hi c hc=>by
  have:i=0:=by simp at hi;exact hi
  subst this
  rw[(box_cells h).1,hcs]
  simp⟩
theorem zeroValsR:∀ w,(zeroValue 91).run Tryz.prog w = .ok (.slice none 0 0) w:=fun w=>by kernel_rfl
end
end Go.Proofs.YtefepfiijoafbaaGreat
